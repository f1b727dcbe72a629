/- Part of a proof: contracts and plain laws. -/
import Derived.Shelf.Strings.Builder1
import Derived.Shelf.Strings.Builder2
import Derived.Shelf.Strings.OnBuilder
import Derived.Shelf.Strings.Trim
import Derived.Shelf.Small.Utf8
import Derived.Shelf.Small.Bits
import Derived.Shelf.Small.Strs
import Derived.Shelf.Strings.BuilderF
import Derived.Shelf.Strings.BuilderK
import Derived.Shelf.Strings.BuilderRune
import Derived.Shelf.Utf8.AppendRune
import Derived.Shelf.Utf8.AppendRunePlain
import Derived.Shelf.Strings.Builder2Cap
import Derived.Shelf.Strconv.Atoi
import Derived.Shelf.Strconv.Itoa0
import Derived.Shelf.Strconv.Itoa1
import Derived.Shelf.LaysM
import Derived.Shelf.Strconv.Itoa2
import Derived.Shelf.Strconv.Itoa3
import Derived.Shelf.Strconv.AtoiErrFast
import Derived.Shelf.Strconv.ParseIntEmpty
import Derived.Shelf.Strconv.AtoiFail
import Derived.Shelf.Strconv.Clone
import Derived.Shelf.Strconv.SyntaxError
import Derived.Shelf.LaysC
import Derived.Shelf.Strconv.ToError
import Derived.Shelf.Strconv.AtoiErr
import Derived.Shelf.Strconv.ErrVar
import Derived.Shelf.Strconv.Lower
import Derived.Shelf.Strconv.ParseUint10
import Derived.Shelf.Strconv.ParseUint10Empty
import Derived.Shelf.Strconv.ParseUint10Any
import Derived.Shelf.Strconv.RangeError
import Derived.Shelf.Strconv.ToErrorRange
import Derived.Shelf.Strconv.ParseUintEmpty
import Derived.Shelf.Strconv.ParseUint10b64
import Derived.Shelf.Strconv.ParseUint10b32
import Derived.Shelf.Strconv.ParseUint10b16
import Derived.Shelf.Strconv.ParseUint10b8
import Derived.Shelf.Strconv.ParseUint10At
import Derived.Shelf.Strings.Search1
import Derived.Shelf.Strings.Search2
import Derived.Shelf.Strings.Search3
import Derived.Shelf.Strings.Shaped
import Derived.Shelf.Strings.Prefix
import Derived.Shelf.Unicode.Latin
import Derived.Shelf.Unicode.Decode
import Derived.Shelf.Strings.Runes
import Derived.Shelf.Strings.AsciiSet
import Derived.Shelf.Bits.Mul64
import Derived.Shelf.Unicode.DecodeSlow
import Derived.Shelf.Unicode.DecodeAny
import Derived.Shelf.Unicode.CaseLookup
import Derived.Shelf.Unicode.CaseConvert
import Derived.Shelf.Unicode.CaseTo
import Derived.Shelf.Unicode.CaseLaid
import Derived.Shelf.Strings.MapAny
import Derived.Shelf.Strings.CaseAny
import Derived.Shelf.Unicode.ValidAny
import Derived.Shelf.Strings.BuilderCap
import Derived.Test.YtlfblkekbcfjpaaGreatDoorProg
import Derived.Lib.ItoaNum
import Derived.Test.YtlfblkekbcfjpaaGreatDoorZ11
set_option linter.unusedVariables false
set_option linter.unusedSimpArgs false
namespace Go.Proofs
open Go.Shelf
def Tryz.lays159_ren : Go.Shelf.Ren := ⟨fun | 159 => 218 | 165 => 226 | 166 => 227 | 167 => 228 | 169 => 229 | 230 => 230 | 204 => 231 | 240 => 236 | 241 => 237 | 197 => 179 | 118 => 238 | 168 => 239 | 270 => 240 | 262 => 241 | 276 => 246 | 277 => 247 | 260 => 200 | 242 => 248 | 313 => 249 | 278 => 254 | 274 => 255 | 275 => 256 | n => n, fun | 9 => 9 | 4 => 4 | 3 => 3 | 5 => 5 | 72 => 224 | 0 => 0 | 76 => 168 | 75 => 167 | 107 => 229 | 70 => 222 | 20 => 20 | 37 => 22 | 127 => 232 | 21 => 21 | 105 => 182 | 164 => 245 | 162 => 251 | 203 => 249 | 119 => 195 | 46 => 159 | 139 => 198 | 138 => 197 | 51 => 219 | 160 => 256 | 208 => 263 | 206 => 261 | 80 => 227 | n => n, fun | 13 => 7 | 3 => 0 | 4 => 1 | n => n⟩
theorem Tryz.lays159 : Go.Proofs.Lays.n159 Tryz.prog Tryz.lays159_ren := {
 mixed := by kernel_rfl
 f118 := Tryz.func238.trans (congrArg some (by kernel_rfl))
 f159 := Tryz.func218.trans (congrArg some (by kernel_rfl))
 f165 := Tryz.func226.trans (congrArg some (by kernel_rfl))
 f166 := Tryz.func227.trans (congrArg some (by kernel_rfl))
 f167 := Tryz.func228.trans (congrArg some (by kernel_rfl))
 f168 := Tryz.func239.trans (congrArg some (by kernel_rfl))
 f169 := Tryz.func229.trans (congrArg some (by kernel_rfl))
 f197 := Tryz.func179.trans (congrArg some (by kernel_rfl))
 f204 := Tryz.func231.trans (congrArg some (by kernel_rfl))
 f230 := Tryz.func230.trans (congrArg some (by kernel_rfl))
 f240 := Tryz.func236.trans (congrArg some (by kernel_rfl))
 f241 := Tryz.func237.trans (congrArg some (by kernel_rfl))
 f242 := Tryz.func248.trans (congrArg some (by kernel_rfl))
 f260 := Tryz.func200.trans (congrArg some (by kernel_rfl))
 f262 := Tryz.func241.trans (congrArg some (by kernel_rfl))
 f270 := Tryz.func240.trans (congrArg some (by kernel_rfl))
 f274 := Tryz.func255.trans (congrArg some (by kernel_rfl))
 f275 := Tryz.func256.trans (congrArg some (by kernel_rfl))
 f276 := Tryz.func246.trans (congrArg some (by kernel_rfl))
 f277 := Tryz.func247.trans (congrArg some (by kernel_rfl))
 f278 := Tryz.func254.trans (congrArg some (by kernel_rfl))
 f313 := Tryz.func249.trans (congrArg some (by kernel_rfl))
 t0 := Tryz.underlying0
 a0 := Tryz.isAgg0
 z0 := Tryz.sizeOf0
 v0 := Tryz.zeroValue0
 t3 := Tryz.underlying3
 a3 := Tryz.isAgg3
 z3 := Tryz.sizeOf3
 v3 := Tryz.zeroValue3
 t4 := Tryz.underlying4
 a4 := Tryz.isAgg4
 z4 := Tryz.sizeOf4
 v4 := Tryz.zeroValue4
 t5 := Tryz.underlying5
 a5 := Tryz.isAgg5
 z5 := Tryz.sizeOf5
 v5 := Tryz.zeroValue5
 t9 := Tryz.underlying9
 a9 := Tryz.isAgg9
 z9 := Tryz.sizeOf9
 v9 := Tryz.zeroValue9
 t20 := Tryz.underlying20
 a20 := Tryz.isAgg20
 z20 := Tryz.sizeOf20
 v20 := Tryz.zeroValue20
 t21 := Tryz.underlying21
 a21 := Tryz.isAgg21
 z21 := Tryz.sizeOf21
 v21 := Tryz.zeroValue21
 t37 := Tryz.underlying22
 a37 := Tryz.isAgg22
 z37 := Tryz.sizeOf22
 v37 := Tryz.zeroValue22
 t46 := Tryz.underlying159
 a46 := Tryz.isAgg159
 z46 := Tryz.sizeOf159
 v46 := Tryz.zeroValue159
 t51 := Tryz.underlying219
 a51 := Tryz.isAgg219
 z51 := Tryz.sizeOf219
 v51 := Tryz.zeroValue219
 t70 := Tryz.underlying222
 a70 := Tryz.isAgg222
 z70 := Tryz.sizeOf222
 v70 := Tryz.zeroValue222
 t72 := Tryz.underlying224
 a72 := Tryz.isAgg224
 z72 := Tryz.sizeOf224
 v72 := Tryz.zeroValue224
 t75 := Tryz.underlying167
 a75 := Tryz.isAgg167
 z75 := Tryz.sizeOf167
 v75 := Tryz.zeroValue167
 t76 := Tryz.underlying168
 a76 := Tryz.isAgg168
 z76 := Tryz.sizeOf168
 v76 := Tryz.zeroValue168
 t105 := Tryz.underlying182
 a105 := Tryz.isAgg182
 z105 := Tryz.sizeOf182
 v105 := Tryz.zeroValue182
 t107 := Tryz.underlying229
 a107 := Tryz.isAgg229
 z107 := Tryz.sizeOf229
 v107 := Tryz.zeroValue229
 t119 := Tryz.underlying195
 a119 := Tryz.isAgg195
 z119 := Tryz.sizeOf195
 t127 := Tryz.underlying232
 a127 := Tryz.isAgg232
 z127 := Tryz.sizeOf232
 v127 := Tryz.zeroValue232
 t138 := Tryz.underlying197
 a138 := Tryz.isAgg197
 z138 := Tryz.sizeOf197
 v138 := Tryz.zeroValue197
 t139 := Tryz.underlying198
 a139 := Tryz.isAgg198
 z139 := Tryz.sizeOf198
 v139 := Tryz.zeroValue198
 t160 := Tryz.underlying256
 a160 := Tryz.isAgg256
 z160 := Tryz.sizeOf256
 v160 := Tryz.zeroValue256
 t162 := Tryz.underlying251
 a162 := Tryz.isAgg251
 z162 := Tryz.sizeOf251
 v162 := Tryz.zeroValue251
 t164 := Tryz.underlying245
 a164 := Tryz.isAgg245
 z164 := Tryz.sizeOf245
 v164 := Tryz.zeroValue245
 t203 := Tryz.underlying249
 a203 := Tryz.isAgg249
 z203 := Tryz.sizeOf249
 v203 := Tryz.zeroValue249
 t206 := Tryz.underlying261
 a206 := Tryz.isAgg261
 z206 := Tryz.sizeOf261
 v206 := Tryz.zeroValue261
 t208 := Tryz.underlying263
 a208 := Tryz.isAgg263
 z208 := Tryz.sizeOf263
 v208 := Tryz.zeroValue263
 g3 := by kernel_rfl
 g4 := by kernel_rfl
 g13 := by kernel_rfl }
theorem Tryz.Builder_Extra_159 : Builder.Extra Tryz.prog Tryz.lays159_ren := {
 sizeBuilder := by kernel_rfl
 liesBuilder := by kernel_rfl
 t5 := Tryz.underlying5
 a5 := Tryz.isAgg5
 z5 := Tryz.sizeOf5
 v5 := Tryz.zeroValue5
 infoByte := by kernel_rfl
 cellsByte := by kernel_rfl
 sizeByte := by kernel_rfl
 neB5 := by decide }
def Tryz.lays161_ren : Go.Shelf.Ren := ⟨fun | 161 => 151 | 231 => 181 | 227 => 182 | 233 => 183 | 235 => 184 | 228 => 202 | 197 => 179 | 151 => 203 | 260 => 200 | 152 => 219 | 137 => 145 | 119 => 232 | 224 => 216 | 225 => 215 | 217 => 177 | 266 => 198 | n => n, fun | 9 => 9 | 4 => 4 | 3 => 3 | 5 => 5 | 117 => 187 | 116 => 186 | 0 => 0 | 124 => 190 | 105 => 182 | 21 => 21 | 119 => 195 | 46 => 159 | 139 => 198 | 138 => 197 | n => n, fun | 3 => 0 | 4 => 1 | n => n⟩
theorem Tryz.lays161 : Go.Proofs.Lays.n161 Tryz.prog Tryz.lays161_ren := {
 mixed := by kernel_rfl
 f119 := Tryz.func232.trans (congrArg some (by kernel_rfl))
 f137 := Tryz.func145.trans (congrArg some (by kernel_rfl))
 f151 := Tryz.func203.trans (congrArg some (by kernel_rfl))
 f152 := Tryz.func219.trans (congrArg some (by kernel_rfl))
 f161 := Tryz.func151.trans (congrArg some (by kernel_rfl))
 f197 := Tryz.func179.trans (congrArg some (by kernel_rfl))
 f217 := Tryz.func177.trans (congrArg some (by kernel_rfl))
 f224 := Tryz.func216.trans (congrArg some (by kernel_rfl))
 f225 := Tryz.func215.trans (congrArg some (by kernel_rfl))
 f227 := Tryz.func182.trans (congrArg some (by kernel_rfl))
 f228 := Tryz.func202.trans (congrArg some (by kernel_rfl))
 f231 := Tryz.func181.trans (congrArg some (by kernel_rfl))
 f233 := Tryz.func183.trans (congrArg some (by kernel_rfl))
 f235 := Tryz.func184.trans (congrArg some (by kernel_rfl))
 f260 := Tryz.func200.trans (congrArg some (by kernel_rfl))
 f266 := Tryz.func198.trans (congrArg some (by kernel_rfl))
 t0 := Tryz.underlying0
 a0 := Tryz.isAgg0
 z0 := Tryz.sizeOf0
 v0 := Tryz.zeroValue0
 t3 := Tryz.underlying3
 a3 := Tryz.isAgg3
 z3 := Tryz.sizeOf3
 v3 := Tryz.zeroValue3
 t4 := Tryz.underlying4
 a4 := Tryz.isAgg4
 z4 := Tryz.sizeOf4
 v4 := Tryz.zeroValue4
 t5 := Tryz.underlying5
 a5 := Tryz.isAgg5
 z5 := Tryz.sizeOf5
 v5 := Tryz.zeroValue5
 t9 := Tryz.underlying9
 a9 := Tryz.isAgg9
 z9 := Tryz.sizeOf9
 v9 := Tryz.zeroValue9
 t21 := Tryz.underlying21
 a21 := Tryz.isAgg21
 z21 := Tryz.sizeOf21
 v21 := Tryz.zeroValue21
 t46 := Tryz.underlying159
 a46 := Tryz.isAgg159
 z46 := Tryz.sizeOf159
 v46 := Tryz.zeroValue159
 t105 := Tryz.underlying182
 a105 := Tryz.isAgg182
 z105 := Tryz.sizeOf182
 v105 := Tryz.zeroValue182
 t116 := Tryz.underlying186
 a116 := Tryz.isAgg186
 z116 := Tryz.sizeOf186
 t117 := Tryz.underlying187
 a117 := Tryz.isAgg187
 z117 := Tryz.sizeOf187
 v117 := Tryz.zeroValue187
 t119 := Tryz.underlying195
 a119 := Tryz.isAgg195
 z119 := Tryz.sizeOf195
 t124 := Tryz.underlying190
 a124 := Tryz.isAgg190
 z124 := Tryz.sizeOf190
 v124 := Tryz.zeroValue190
 t138 := Tryz.underlying197
 a138 := Tryz.isAgg197
 z138 := Tryz.sizeOf197
 v138 := Tryz.zeroValue197
 t139 := Tryz.underlying198
 a139 := Tryz.isAgg198
 z139 := Tryz.sizeOf198
 v139 := Tryz.zeroValue198
 g3 := by kernel_rfl
 g4 := by kernel_rfl }
open Go.RowKit in
theorem Tryz.strings_TrimLeft_one (s : ByteArray) (c : UInt8) (hc : c.toNat < 128) (w : World) :
  Calls Tryz.prog 151 #[.string s, .string ⟨#[c]⟩] w fun e w' => e = .returned (.string ⟨(Lib.trimLeftB s.data.toList c).toArray⟩) ∧ w' = w := Any.strings_TrimLeft_one Tryz.lays161 s c hc w
def Tryz.lays134_ren : Go.Shelf.Ren := ⟨fun | 134 => 213 | 129 => 224 | n => n, fun | 53 => 175 | 3 => 3 | 4 => 4 | 46 => 159 | 5 => 5 | 9 => 9 | n => n, fun | n => n⟩
theorem Tryz.lays134 : Go.Proofs.Lays.n134 Tryz.prog Tryz.lays134_ren := {
 mixed := by kernel_rfl
 f129 := Tryz.func224.trans (congrArg some (by kernel_rfl))
 f134 := Tryz.func213.trans (congrArg some (by kernel_rfl))
 t3 := Tryz.underlying3
 a3 := Tryz.isAgg3
 z3 := Tryz.sizeOf3
 v3 := Tryz.zeroValue3
 t4 := Tryz.underlying4
 a4 := Tryz.isAgg4
 z4 := Tryz.sizeOf4
 v4 := Tryz.zeroValue4
 t5 := Tryz.underlying5
 a5 := Tryz.isAgg5
 z5 := Tryz.sizeOf5
 v5 := Tryz.zeroValue5
 t9 := Tryz.underlying9
 a9 := Tryz.isAgg9
 z9 := Tryz.sizeOf9
 v9 := Tryz.zeroValue9
 t46 := Tryz.underlying159
 a46 := Tryz.isAgg159
 z46 := Tryz.sizeOf159
 v46 := Tryz.zeroValue159
 t53 := Tryz.underlying175
 a53 := Tryz.isAgg175
 z53 := Tryz.sizeOf175
 v53 := Tryz.zeroValue175 }
theorem Tryz.bits_LeadingZeros64 (x : Int) (w : World) (h0 : 0 ≤ x) (h1 : x ≤ 18446744073709551615) :
  Calls Tryz.prog 213 #[.int .u64 x] w fun e w' => e = .returned (.int .i64 (64 - (Lib.bitLen x.toNat : Int))) ∧ w' = w := Any.bits_LeadingZeros64 Tryz.lays134 x w h0 h1
def Tryz.lays137_ren : Go.Shelf.Ren := ⟨fun | 137 => 145 | 217 => 177 | 266 => 198 | n => n, fun | 9 => 9 | 5 => 5 | 3 => 3 | n => n, fun | n => n⟩
theorem Tryz.lays137 : Go.Proofs.Lays.n137 Tryz.prog Tryz.lays137_ren := {
 mixed := by kernel_rfl
 f137 := Tryz.func145.trans (congrArg some (by kernel_rfl))
 f217 := Tryz.func177.trans (congrArg some (by kernel_rfl))
 f266 := Tryz.func198.trans (congrArg some (by kernel_rfl))
 t3 := Tryz.underlying3
 a3 := Tryz.isAgg3
 z3 := Tryz.sizeOf3
 v3 := Tryz.zeroValue3
 t5 := Tryz.underlying5
 a5 := Tryz.isAgg5
 z5 := Tryz.sizeOf5
 v5 := Tryz.zeroValue5
 t9 := Tryz.underlying9
 a9 := Tryz.isAgg9
 z9 := Tryz.sizeOf9
 v9 := Tryz.zeroValue9 }
open Go.RowKit in
theorem Tryz.strings_IndexByte (s : ByteArray) (c : Int) (w : World) :
  Calls Tryz.prog 145 #[.string s, .int .u8 c] w fun e w' => e = .returned (.int .i64 (Lib.indexByte s.data.toList c.toNat.toUInt8)) ∧ w' = w := Any.strings_IndexByte Tryz.lays137 s c w
def Tryz.lays172_ren : Go.Shelf.Ren := ⟨fun | 172 => 152 | 244 => 185 | 245 => 186 | 247 => 204 | 279 => 205 | 280 => 206 | 281 => 207 | 282 => 208 | 287 => 220 | 316 => 221 | 171 => 210 | 205 => 222 | 321 => 233 | 322 => 234 | 243 => 223 | 246 => 235 | 283 => 242 | 284 => 243 | 285 => 244 | 286 => 245 | 129 => 224 | 317 => 250 | 318 => 251 | 319 => 252 | 320 => 253 | 337 => 257 | 338 => 258 | n => n, fun | 9 => 9 | 3 => 3 | 75 => 167 | 76 => 168 | 4 => 4 | 5 => 5 | 167 => 204 | 37 => 22 | 0 => 0 | 85 => 205 | 2 => 2 | 168 => 207 | 53 => 175 | 175 => 214 | 46 => 159 | 210 => 217 | 127 => 232 | 145 => 235 | 143 => 233 | 21 => 21 | 171 => 241 | 173 => 243 | 212 => 253 | 51 => 219 | 20 => 20 | 213 => 254 | 232 => 264 | 233 => 265 | 80 => 227 | n => n, fun | 15 => 5 | 16 => 6 | 17 => 8 | 18 => 9 | 19 => 10 | n => n⟩
theorem Tryz.lays172 : Go.Proofs.Lays.n172 Tryz.prog Tryz.lays172_ren := {
 mixed := by kernel_rfl
 f129 := Tryz.func224.trans (congrArg some (by kernel_rfl))
 f171 := Tryz.func210.trans (congrArg some (by kernel_rfl))
 f172 := Tryz.func152.trans (congrArg some (by kernel_rfl))
 f205 := Tryz.func222.trans (congrArg some (by kernel_rfl))
 f243 := Tryz.func223.trans (congrArg some (by kernel_rfl))
 f244 := Tryz.func185.trans (congrArg some (by kernel_rfl))
 f245 := Tryz.func186.trans (congrArg some (by kernel_rfl))
 f246 := Tryz.func235.trans (congrArg some (by kernel_rfl))
 f247 := Tryz.func204.trans (congrArg some (by kernel_rfl))
 f279 := Tryz.func205.trans (congrArg some (by kernel_rfl))
 f280 := Tryz.func206.trans (congrArg some (by kernel_rfl))
 f281 := Tryz.func207.trans (congrArg some (by kernel_rfl))
 f282 := Tryz.func208.trans (congrArg some (by kernel_rfl))
 f283 := Tryz.func242.trans (congrArg some (by kernel_rfl))
 f284 := Tryz.func243.trans (congrArg some (by kernel_rfl))
 f285 := Tryz.func244.trans (congrArg some (by kernel_rfl))
 f286 := Tryz.func245.trans (congrArg some (by kernel_rfl))
 f287 := Tryz.func220.trans (congrArg some (by kernel_rfl))
 f316 := Tryz.func221.trans (congrArg some (by kernel_rfl))
 f317 := Tryz.func250.trans (congrArg some (by kernel_rfl))
 f318 := Tryz.func251.trans (congrArg some (by kernel_rfl))
 f319 := Tryz.func252.trans (congrArg some (by kernel_rfl))
 f320 := Tryz.func253.trans (congrArg some (by kernel_rfl))
 f321 := Tryz.func233.trans (congrArg some (by kernel_rfl))
 f322 := Tryz.func234.trans (congrArg some (by kernel_rfl))
 f337 := Tryz.func257.trans (congrArg some (by kernel_rfl))
 f338 := Tryz.func258.trans (congrArg some (by kernel_rfl))
 t0 := Tryz.underlying0
 a0 := Tryz.isAgg0
 z0 := Tryz.sizeOf0
 v0 := Tryz.zeroValue0
 t2 := Tryz.underlying2
 a2 := Tryz.isAgg2
 z2 := Tryz.sizeOf2
 v2 := Tryz.zeroValue2
 t3 := Tryz.underlying3
 a3 := Tryz.isAgg3
 z3 := Tryz.sizeOf3
 v3 := Tryz.zeroValue3
 t4 := Tryz.underlying4
 a4 := Tryz.isAgg4
 z4 := Tryz.sizeOf4
 v4 := Tryz.zeroValue4
 t5 := Tryz.underlying5
 a5 := Tryz.isAgg5
 z5 := Tryz.sizeOf5
 v5 := Tryz.zeroValue5
 t9 := Tryz.underlying9
 a9 := Tryz.isAgg9
 z9 := Tryz.sizeOf9
 v9 := Tryz.zeroValue9
 t20 := Tryz.underlying20
 a20 := Tryz.isAgg20
 z20 := Tryz.sizeOf20
 v20 := Tryz.zeroValue20
 t21 := Tryz.underlying21
 a21 := Tryz.isAgg21
 z21 := Tryz.sizeOf21
 v21 := Tryz.zeroValue21
 t37 := Tryz.underlying22
 a37 := Tryz.isAgg22
 z37 := Tryz.sizeOf22
 v37 := Tryz.zeroValue22
 t46 := Tryz.underlying159
 a46 := Tryz.isAgg159
 z46 := Tryz.sizeOf159
 v46 := Tryz.zeroValue159
 t51 := Tryz.underlying219
 a51 := Tryz.isAgg219
 z51 := Tryz.sizeOf219
 v51 := Tryz.zeroValue219
 t53 := Tryz.underlying175
 a53 := Tryz.isAgg175
 z53 := Tryz.sizeOf175
 v53 := Tryz.zeroValue175
 t75 := Tryz.underlying167
 a75 := Tryz.isAgg167
 z75 := Tryz.sizeOf167
 v75 := Tryz.zeroValue167
 t76 := Tryz.underlying168
 a76 := Tryz.isAgg168
 z76 := Tryz.sizeOf168
 v76 := Tryz.zeroValue168
 t85 := Tryz.underlying205
 a85 := Tryz.isAgg205
 z85 := Tryz.sizeOf205
 v85 := Tryz.zeroValue205
 t127 := Tryz.underlying232
 a127 := Tryz.isAgg232
 z127 := Tryz.sizeOf232
 v127 := Tryz.zeroValue232
 t143 := Tryz.underlying233
 a143 := Tryz.isAgg233
 z143 := Tryz.sizeOf233
 v143 := Tryz.zeroValue233
 t145 := Tryz.underlying235
 a145 := Tryz.isAgg235
 z145 := Tryz.sizeOf235
 v145 := Tryz.zeroValue235
 t167 := Tryz.underlying204
 a167 := Tryz.isAgg204
 z167 := Tryz.sizeOf204
 v167 := Tryz.zeroValue204
 t168 := Tryz.underlying207
 a168 := Tryz.isAgg207
 z168 := Tryz.sizeOf207
 v168 := Tryz.zeroValue207
 t171 := Tryz.underlying241
 a171 := Tryz.isAgg241
 z171 := Tryz.sizeOf241
 v171 := Tryz.zeroValue241
 t173 := Tryz.underlying243
 a173 := Tryz.isAgg243
 z173 := Tryz.sizeOf243
 v173 := Tryz.zeroValue243
 t175 := Tryz.underlying214
 a175 := Tryz.isAgg214
 z175 := Tryz.sizeOf214
 v175 := Tryz.zeroValue214
 t210 := Tryz.underlying217
 a210 := Tryz.isAgg217
 z210 := Tryz.sizeOf217
 v210 := Tryz.zeroValue217
 t212 := Tryz.underlying253
 a212 := Tryz.isAgg253
 z212 := Tryz.sizeOf253
 v212 := Tryz.zeroValue253
 t213 := Tryz.underlying254
 a213 := Tryz.isAgg254
 z213 := Tryz.sizeOf254
 t232 := Tryz.underlying264
 a232 := Tryz.isAgg264
 z232 := Tryz.sizeOf264
 v232 := Tryz.zeroValue264
 t233 := Tryz.underlying265
 a233 := Tryz.isAgg265
 z233 := Tryz.sizeOf265
 v233 := Tryz.zeroValue265
 g15 := by kernel_rfl
 g16 := by kernel_rfl
 g17 := by kernel_rfl
 g18 := by kernel_rfl
 g19 := by kernel_rfl }
open Go.RowKit in
theorem Tryz.strconv_Atoi (s : ByteArray) (n : Int) (hl : s.size ≤ 18) (h : Lib.atoi s.data.toList = some n) (w : World) :
  Calls Tryz.prog 152 #[.string s] w fun e w' => e = .returned (.tuple #[.int .i64 n, .nilIface]) ∧ ∃ t, w' = Lib.bytesWorld w 5 t := Any.strconv_Atoi Tryz.lays172 s n hl h w
def Tryz.laysM171_ren : Go.Shelf.Ren := ⟨fun | 171 => 210 | 243 => 223 | 246 => 235 | 283 => 242 | 284 => 243 | 285 => 244 | 286 => 245 | 129 => 224 | 317 => 250 | 318 => 251 | 319 => 252 | 320 => 253 | 337 => 257 | 338 => 258 | n => n, fun | 3 => 3 | 9 => 9 | 2 => 2 | 4 => 4 | 171 => 241 | 0 => 0 | 53 => 175 | 37 => 22 | 5 => 5 | 173 => 243 | 212 => 253 | 51 => 219 | 20 => 20 | 213 => 254 | 46 => 159 | 232 => 264 | 233 => 265 | n => n, fun | 17 => 8 | 18 => 9 | 19 => 10 | n => n⟩
theorem Tryz.laysM171 : Go.Proofs.LaysM.n171 Tryz.prog Tryz.laysM171_ren := {
 mixed := by kernel_rfl
 f129 := Tryz.func224.trans (congrArg some (by kernel_rfl))
 f171 := Tryz.func210.trans (congrArg some (by kernel_rfl))
 f243 := Tryz.func223.trans (congrArg some (by kernel_rfl))
 f246 := Tryz.func235.trans (congrArg some (by kernel_rfl))
 f283 := Tryz.func242.trans (congrArg some (by kernel_rfl))
 f284 := Tryz.func243.trans (congrArg some (by kernel_rfl))
 f285 := Tryz.func244.trans (congrArg some (by kernel_rfl))
 f286 := Tryz.func245.trans (congrArg some (by kernel_rfl))
 f317 := Tryz.func250.trans (congrArg some (by kernel_rfl))
 f318 := Tryz.func251.trans (congrArg some (by kernel_rfl))
 f319 := Tryz.func252.trans (congrArg some (by kernel_rfl))
 f320 := Tryz.func253.trans (congrArg some (by kernel_rfl))
 f337 := Tryz.func257.trans (congrArg some (by kernel_rfl))
 f338 := Tryz.func258.trans (congrArg some (by kernel_rfl))
 t0 := Tryz.underlying0
 a0 := Tryz.isAgg0
 z0 := Tryz.sizeOf0
 v0 := Tryz.zeroValue0
 t2 := Tryz.underlying2
 a2 := Tryz.isAgg2
 z2 := Tryz.sizeOf2
 v2 := Tryz.zeroValue2
 t3 := Tryz.underlying3
 a3 := Tryz.isAgg3
 z3 := Tryz.sizeOf3
 v3 := Tryz.zeroValue3
 t4 := Tryz.underlying4
 a4 := Tryz.isAgg4
 z4 := Tryz.sizeOf4
 v4 := Tryz.zeroValue4
 t5 := Tryz.underlying5
 a5 := Tryz.isAgg5
 z5 := Tryz.sizeOf5
 v5 := Tryz.zeroValue5
 t9 := Tryz.underlying9
 a9 := Tryz.isAgg9
 z9 := Tryz.sizeOf9
 v9 := Tryz.zeroValue9
 t20 := Tryz.underlying20
 a20 := Tryz.isAgg20
 z20 := Tryz.sizeOf20
 v20 := Tryz.zeroValue20
 t37 := Tryz.underlying22
 a37 := Tryz.isAgg22
 z37 := Tryz.sizeOf22
 v37 := Tryz.zeroValue22
 t46 := Tryz.underlying159
 a46 := Tryz.isAgg159
 z46 := Tryz.sizeOf159
 v46 := Tryz.zeroValue159
 t51 := Tryz.underlying219
 a51 := Tryz.isAgg219
 z51 := Tryz.sizeOf219
 v51 := Tryz.zeroValue219
 t53 := Tryz.underlying175
 a53 := Tryz.isAgg175
 z53 := Tryz.sizeOf175
 v53 := Tryz.zeroValue175
 t171 := Tryz.underlying241
 a171 := Tryz.isAgg241
 z171 := Tryz.sizeOf241
 v171 := Tryz.zeroValue241
 t173 := Tryz.underlying243
 a173 := Tryz.isAgg243
 z173 := Tryz.sizeOf243
 v173 := Tryz.zeroValue243
 t212 := Tryz.underlying253
 a212 := Tryz.isAgg253
 z212 := Tryz.sizeOf253
 v212 := Tryz.zeroValue253
 t213 := Tryz.underlying254
 a213 := Tryz.isAgg254
 z213 := Tryz.sizeOf254
 t232 := Tryz.underlying264
 a232 := Tryz.isAgg264
 z232 := Tryz.sizeOf264
 v232 := Tryz.zeroValue264
 t233 := Tryz.underlying265
 a233 := Tryz.isAgg265
 z233 := Tryz.sizeOf265
 v233 := Tryz.zeroValue265
 g17 := by kernel_rfl
 g18 := by kernel_rfl
 g19 := by kernel_rfl
 i0 := by kernel_rfl
 i2 := by kernel_rfl
 i3 := by kernel_rfl
 i4 := by kernel_rfl
 i5 := by kernel_rfl
 i9 := by kernel_rfl
 i20 := by kernel_rfl
 i37 := by kernel_rfl
 i46 := by kernel_rfl
 i51 := by kernel_rfl
 i53 := by kernel_rfl
 i171 := by kernel_rfl
 i173 := by kernel_rfl
 i212 := by kernel_rfl
 i232 := by kernel_rfl
 i233 := by kernel_rfl
 m17 := by kernel_rfl
 m18 := by kernel_rfl
 m19 := by kernel_rfl }
open Go.RowKit Go.Sort Go.Lib in
theorem Tryz.strconv_Itoa (n : Int) (h0 : -9223372036854775808 ≤ n) (h1 : n ≤ 9223372036854775807) (w : World) (htab : Lib.TabIs Tryz.prog w "internal/strconv.uint64pow10" .u64 Lib.pow10Tab) :
  Calls Tryz.prog 210 #[.int .i64 n] w fun e w' => e = .returned (.string ⟨(Lib.itoa n).toArray⟩) ∧ ∃ k os, w' = grow (w.drewN k) os := Any.strconv_Itoa Tryz.laysM171 n h0 h1 w htab
def Tryz.laysC172_ren : Go.Shelf.Ren := ⟨fun | 172 => 152 | 244 => 185 | 245 => 186 | 247 => 204 | 279 => 205 | 280 => 206 | 281 => 207 | 282 => 208 | 287 => 220 | 316 => 221 | 171 => 210 | 205 => 222 | 321 => 233 | 322 => 234 | 243 => 223 | 246 => 235 | 283 => 242 | 284 => 243 | 285 => 244 | 286 => 245 | 129 => 224 | 317 => 250 | 318 => 251 | 319 => 252 | 320 => 253 | 337 => 257 | 338 => 258 | n => n, fun | 9 => 9 | 3 => 3 | 75 => 167 | 76 => 168 | 4 => 4 | 5 => 5 | 167 => 204 | 37 => 22 | 0 => 0 | 85 => 205 | 2 => 2 | 168 => 207 | 53 => 175 | 175 => 214 | 46 => 159 | 210 => 217 | 127 => 232 | 145 => 235 | 143 => 233 | 21 => 21 | 171 => 241 | 173 => 243 | 212 => 253 | 51 => 219 | 20 => 20 | 213 => 254 | 232 => 264 | 233 => 265 | 80 => 227 | n => n, fun | 15 => 5 | 16 => 6 | 17 => 8 | 18 => 9 | 19 => 10 | n => n⟩
theorem Tryz.laysC172 : Go.Proofs.LaysC.n172 Tryz.prog Tryz.laysC172_ren := {
 mixed := by kernel_rfl
 f129 := Tryz.func224.trans (congrArg some (by kernel_rfl))
 f171 := Tryz.func210.trans (congrArg some (by kernel_rfl))
 f172 := Tryz.func152.trans (congrArg some (by kernel_rfl))
 f205 := Tryz.func222.trans (congrArg some (by kernel_rfl))
 f243 := Tryz.func223.trans (congrArg some (by kernel_rfl))
 f244 := Tryz.func185.trans (congrArg some (by kernel_rfl))
 f245 := Tryz.func186.trans (congrArg some (by kernel_rfl))
 f246 := Tryz.func235.trans (congrArg some (by kernel_rfl))
 f247 := Tryz.func204.trans (congrArg some (by kernel_rfl))
 f279 := Tryz.func205.trans (congrArg some (by kernel_rfl))
 f280 := Tryz.func206.trans (congrArg some (by kernel_rfl))
 f281 := Tryz.func207.trans (congrArg some (by kernel_rfl))
 f282 := Tryz.func208.trans (congrArg some (by kernel_rfl))
 f283 := Tryz.func242.trans (congrArg some (by kernel_rfl))
 f284 := Tryz.func243.trans (congrArg some (by kernel_rfl))
 f285 := Tryz.func244.trans (congrArg some (by kernel_rfl))
 f286 := Tryz.func245.trans (congrArg some (by kernel_rfl))
 f287 := Tryz.func220.trans (congrArg some (by kernel_rfl))
 f316 := Tryz.func221.trans (congrArg some (by kernel_rfl))
 f317 := Tryz.func250.trans (congrArg some (by kernel_rfl))
 f318 := Tryz.func251.trans (congrArg some (by kernel_rfl))
 f319 := Tryz.func252.trans (congrArg some (by kernel_rfl))
 f320 := Tryz.func253.trans (congrArg some (by kernel_rfl))
 f321 := Tryz.func233.trans (congrArg some (by kernel_rfl))
 f322 := Tryz.func234.trans (congrArg some (by kernel_rfl))
 f337 := Tryz.func257.trans (congrArg some (by kernel_rfl))
 f338 := Tryz.func258.trans (congrArg some (by kernel_rfl))
 t0 := Tryz.underlying0
 a0 := Tryz.isAgg0
 z0 := Tryz.sizeOf0
 v0 := Tryz.zeroValue0
 t2 := Tryz.underlying2
 a2 := Tryz.isAgg2
 z2 := Tryz.sizeOf2
 v2 := Tryz.zeroValue2
 t3 := Tryz.underlying3
 a3 := Tryz.isAgg3
 z3 := Tryz.sizeOf3
 v3 := Tryz.zeroValue3
 t4 := Tryz.underlying4
 a4 := Tryz.isAgg4
 z4 := Tryz.sizeOf4
 v4 := Tryz.zeroValue4
 t5 := Tryz.underlying5
 a5 := Tryz.isAgg5
 z5 := Tryz.sizeOf5
 v5 := Tryz.zeroValue5
 t9 := Tryz.underlying9
 a9 := Tryz.isAgg9
 z9 := Tryz.sizeOf9
 v9 := Tryz.zeroValue9
 t20 := Tryz.underlying20
 a20 := Tryz.isAgg20
 z20 := Tryz.sizeOf20
 v20 := Tryz.zeroValue20
 t21 := Tryz.underlying21
 a21 := Tryz.isAgg21
 z21 := Tryz.sizeOf21
 v21 := Tryz.zeroValue21
 t37 := Tryz.underlying22
 a37 := Tryz.isAgg22
 z37 := Tryz.sizeOf22
 v37 := Tryz.zeroValue22
 t46 := Tryz.underlying159
 a46 := Tryz.isAgg159
 z46 := Tryz.sizeOf159
 v46 := Tryz.zeroValue159
 t51 := Tryz.underlying219
 a51 := Tryz.isAgg219
 z51 := Tryz.sizeOf219
 v51 := Tryz.zeroValue219
 t53 := Tryz.underlying175
 a53 := Tryz.isAgg175
 z53 := Tryz.sizeOf175
 v53 := Tryz.zeroValue175
 t75 := Tryz.underlying167
 a75 := Tryz.isAgg167
 z75 := Tryz.sizeOf167
 v75 := Tryz.zeroValue167
 t76 := Tryz.underlying168
 a76 := Tryz.isAgg168
 z76 := Tryz.sizeOf168
 v76 := Tryz.zeroValue168
 t85 := Tryz.underlying205
 a85 := Tryz.isAgg205
 z85 := Tryz.sizeOf205
 v85 := Tryz.zeroValue205
 t127 := Tryz.underlying232
 a127 := Tryz.isAgg232
 z127 := Tryz.sizeOf232
 v127 := Tryz.zeroValue232
 t143 := Tryz.underlying233
 a143 := Tryz.isAgg233
 z143 := Tryz.sizeOf233
 v143 := Tryz.zeroValue233
 t145 := Tryz.underlying235
 a145 := Tryz.isAgg235
 z145 := Tryz.sizeOf235
 v145 := Tryz.zeroValue235
 t167 := Tryz.underlying204
 a167 := Tryz.isAgg204
 z167 := Tryz.sizeOf204
 v167 := Tryz.zeroValue204
 t168 := Tryz.underlying207
 a168 := Tryz.isAgg207
 z168 := Tryz.sizeOf207
 v168 := Tryz.zeroValue207
 t171 := Tryz.underlying241
 a171 := Tryz.isAgg241
 z171 := Tryz.sizeOf241
 v171 := Tryz.zeroValue241
 t173 := Tryz.underlying243
 a173 := Tryz.isAgg243
 z173 := Tryz.sizeOf243
 v173 := Tryz.zeroValue243
 t175 := Tryz.underlying214
 a175 := Tryz.isAgg214
 z175 := Tryz.sizeOf214
 v175 := Tryz.zeroValue214
 t210 := Tryz.underlying217
 a210 := Tryz.isAgg217
 z210 := Tryz.sizeOf217
 v210 := Tryz.zeroValue217
 t212 := Tryz.underlying253
 a212 := Tryz.isAgg253
 z212 := Tryz.sizeOf253
 v212 := Tryz.zeroValue253
 t213 := Tryz.underlying254
 a213 := Tryz.isAgg254
 z213 := Tryz.sizeOf254
 t232 := Tryz.underlying264
 a232 := Tryz.isAgg264
 z232 := Tryz.sizeOf264
 v232 := Tryz.zeroValue264
 t233 := Tryz.underlying265
 a233 := Tryz.isAgg265
 z233 := Tryz.sizeOf265
 v233 := Tryz.zeroValue265
 g15 := by kernel_rfl
 g16 := by kernel_rfl
 g17 := by kernel_rfl
 g18 := by kernel_rfl
 g19 := by kernel_rfl
 t80 := Tryz.underlying227
 a80 := Tryz.isAgg227
 z80 := Tryz.sizeOf227
 v80 := Tryz.zeroValue227
 i0 := by kernel_rfl
 i2 := by kernel_rfl
 i3 := by kernel_rfl
 i4 := by kernel_rfl
 i5 := by kernel_rfl
 i9 := by kernel_rfl
 i20 := by kernel_rfl
 i21 := by kernel_rfl
 i37 := by kernel_rfl
 i46 := by kernel_rfl
 i51 := by kernel_rfl
 i53 := by kernel_rfl
 i75 := by kernel_rfl
 i76 := by kernel_rfl
 i80 := by kernel_rfl
 i85 := by kernel_rfl
 i127 := by kernel_rfl
 i143 := by kernel_rfl
 i145 := by kernel_rfl
 i167 := by kernel_rfl
 i168 := by kernel_rfl
 i171 := by kernel_rfl
 i173 := by kernel_rfl
 i175 := by kernel_rfl
 i210 := by kernel_rfl
 i212 := by kernel_rfl
 i232 := by kernel_rfl
 i233 := by kernel_rfl
 m15 := by kernel_rfl
 m16 := by kernel_rfl
 m17 := by kernel_rfl
 m18 := by kernel_rfl
 m19 := by kernel_rfl
 c0 := by kernel_rfl
 c2 := by kernel_rfl
 c3 := by kernel_rfl
 c4 := by kernel_rfl
 c5 := by kernel_rfl
 c9 := by kernel_rfl
 c20 := by kernel_rfl
 c21 := by kernel_rfl
 c37 := by kernel_rfl
 c46 := by kernel_rfl
 c51 := by kernel_rfl
 c53 := by kernel_rfl
 c75 := by kernel_rfl
 c76 := by kernel_rfl
 c80 := by kernel_rfl
 c85 := by kernel_rfl
 c127 := by kernel_rfl
 c143 := by kernel_rfl
 c145 := by kernel_rfl
 c167 := by kernel_rfl
 c168 := by kernel_rfl
 c171 := by kernel_rfl
 c173 := by kernel_rfl
 c175 := by kernel_rfl
 c210 := by kernel_rfl
 c212 := by kernel_rfl
 c213 := by kernel_rfl
 c232 := by kernel_rfl
 c233 := by kernel_rfl }
open Go.RowKit in
theorem Tryz.strconv_Atoi_err_var (s : ByteArray) (hl : s.size ≤ 18) (h : Lib.atoi s.data.toList = none) (tp : TypeId) (p : Value) (w : World) (hvar : w.var? Tryz.prog "strconv.ErrSyntax" = some #[.iface tp p]) :
  Calls Tryz.prog 152 #[.string s] w fun e w' => ∃ N, e = .returned (.tuple #[.int .i64 0, .iface 207 (.pointer (some ⟨N, 0, none⟩))]) ∧ w.heap.size ≤ N ∧ w'.heap[N]? = some (.cells #[.string ⟨#[65, 116, 111, 105]⟩, .string s, .iface tp p] 217 (0, 0)) ∧ Below w.heap.size w w' := Any.strconv_Atoi_err_var Tryz.laysC172 s hl h tp p w hvar
def Tryz.lays144_ren : Go.Shelf.Ren := ⟨fun | 144 => 146 | 143 => 178 | 219 => 199 | 217 => 177 | 225 => 215 | 224 => 216 | 267 => 217 | 266 => 198 | 314 => 225 | n => n, fun | 9 => 9 | 4 => 4 | 3 => 3 | 5 => 5 | 46 => 159 | 146 => 220 | 51 => 219 | n => n, fun | 1 => 4 | n => n⟩
theorem Tryz.lays144 : Go.Proofs.Lays.n144 Tryz.prog Tryz.lays144_ren := {
 mixed := by kernel_rfl
 f143 := Tryz.func178.trans (congrArg some (by kernel_rfl))
 f144 := Tryz.func146.trans (congrArg some (by kernel_rfl))
 f217 := Tryz.func177.trans (congrArg some (by kernel_rfl))
 f219 := Tryz.func199.trans (congrArg some (by kernel_rfl))
 f224 := Tryz.func216.trans (congrArg some (by kernel_rfl))
 f225 := Tryz.func215.trans (congrArg some (by kernel_rfl))
 f266 := Tryz.func198.trans (congrArg some (by kernel_rfl))
 f267 := Tryz.func217.trans (congrArg some (by kernel_rfl))
 f314 := Tryz.func225.trans (congrArg some (by kernel_rfl))
 t3 := Tryz.underlying3
 a3 := Tryz.isAgg3
 z3 := Tryz.sizeOf3
 v3 := Tryz.zeroValue3
 t4 := Tryz.underlying4
 a4 := Tryz.isAgg4
 z4 := Tryz.sizeOf4
 v4 := Tryz.zeroValue4
 t5 := Tryz.underlying5
 a5 := Tryz.isAgg5
 z5 := Tryz.sizeOf5
 v5 := Tryz.zeroValue5
 t9 := Tryz.underlying9
 a9 := Tryz.isAgg9
 z9 := Tryz.sizeOf9
 v9 := Tryz.zeroValue9
 t46 := Tryz.underlying159
 a46 := Tryz.isAgg159
 z46 := Tryz.sizeOf159
 v46 := Tryz.zeroValue159
 t51 := Tryz.underlying219
 a51 := Tryz.isAgg219
 z51 := Tryz.sizeOf219
 v51 := Tryz.zeroValue219
 t146 := Tryz.underlying220
 a146 := Tryz.isAgg220
 z146 := Tryz.sizeOf220
 v146 := Tryz.zeroValue220
 g1 := by kernel_rfl }
open Go.RowKit Go.Lib in
theorem Tryz.strings_Contains_one (s : ByteArray) (c : UInt8) (w : World) :
  Calls Tryz.prog 146 #[.string s, .string ⟨#[c]⟩] w fun e w' => e = .returned (.bool (decide (0 ≤ Lib.indexByte s.data.toList c))) ∧ w' = w := Any.strings_Contains_one Tryz.lays144 s c w
def Tryz.lays99_ren : Go.Shelf.Ren := ⟨fun | 99 => 116 | 206 => 153 | n => n, fun | 9 => 9 | 4 => 4 | 3 => 3 | n => n, fun | n => n⟩
theorem Tryz.lays99 : Go.Proofs.Lays.n99 Tryz.prog Tryz.lays99_ren := {
 mixed := by kernel_rfl
 f99 := Tryz.func116.trans (congrArg some (by kernel_rfl))
 f206 := Tryz.func153.trans (congrArg some (by kernel_rfl))
 t3 := Tryz.underlying3
 a3 := Tryz.isAgg3
 z3 := Tryz.sizeOf3
 v3 := Tryz.zeroValue3
 t4 := Tryz.underlying4
 a4 := Tryz.isAgg4
 z4 := Tryz.sizeOf4
 v4 := Tryz.zeroValue4
 t9 := Tryz.underlying9
 a9 := Tryz.isAgg9
 z9 := Tryz.sizeOf9
 v9 := Tryz.zeroValue9 }
open Go.RowKit Go.Lib in
theorem Tryz.strings_HasPrefix (s p : ByteArray) (w : World) :
  Calls Tryz.prog 116 #[.string s, .string p] w fun e w' => e = .returned (.bool (Lib.hasPrefix s.data.toList p.data.toList)) ∧ w' = w := Any.strings_HasPrefix Tryz.lays99 s p w
def Tryz.lays101_ren : Go.Shelf.Ren := ⟨fun | 101 => 189 | 208 => 209 | 206 => 153 | n => n, fun | 9 => 9 | 4 => 4 | 3 => 3 | n => n, fun | n => n⟩
theorem Tryz.lays101 : Go.Proofs.Lays.n101 Tryz.prog Tryz.lays101_ren := {
 mixed := by kernel_rfl
 f101 := Tryz.func189.trans (congrArg some (by kernel_rfl))
 f206 := Tryz.func153.trans (congrArg some (by kernel_rfl))
 f208 := Tryz.func209.trans (congrArg some (by kernel_rfl))
 t3 := Tryz.underlying3
 a3 := Tryz.isAgg3
 z3 := Tryz.sizeOf3
 v3 := Tryz.zeroValue3
 t4 := Tryz.underlying4
 a4 := Tryz.isAgg4
 z4 := Tryz.sizeOf4
 v4 := Tryz.zeroValue4
 t9 := Tryz.underlying9
 a9 := Tryz.isAgg9
 z9 := Tryz.sizeOf9
 v9 := Tryz.zeroValue9 }
open Go.RowKit Go.Lib in
theorem Tryz.strings_TrimPrefix (s p : ByteArray) (w : World) :
  Calls Tryz.prog 189 #[.string s, .string p] w fun e w' => e = .returned (.string ⟨(Lib.trimPrefix s.data.toList p.data.toList).toArray⟩) ∧ w' = w := Any.strings_TrimPrefix Tryz.lays101 s p w
def Tryz.lays197_ren : Go.Shelf.Ren := ⟨fun | 197 => 179 | 260 => 200 | n => n, fun | 9 => 9 | 21 => 21 | 3 => 3 | 4 => 4 | 5 => 5 | 105 => 182 | 119 => 195 | 0 => 0 | 46 => 159 | 139 => 198 | 138 => 197 | n => n, fun | 3 => 0 | 4 => 1 | n => n⟩
theorem Tryz.lays197 : Go.Proofs.Lays.n197 Tryz.prog Tryz.lays197_ren := {
 mixed := by kernel_rfl
 f197 := Tryz.func179.trans (congrArg some (by kernel_rfl))
 f260 := Tryz.func200.trans (congrArg some (by kernel_rfl))
 t0 := Tryz.underlying0
 a0 := Tryz.isAgg0
 z0 := Tryz.sizeOf0
 v0 := Tryz.zeroValue0
 t3 := Tryz.underlying3
 a3 := Tryz.isAgg3
 z3 := Tryz.sizeOf3
 v3 := Tryz.zeroValue3
 t4 := Tryz.underlying4
 a4 := Tryz.isAgg4
 z4 := Tryz.sizeOf4
 v4 := Tryz.zeroValue4
 t5 := Tryz.underlying5
 a5 := Tryz.isAgg5
 z5 := Tryz.sizeOf5
 v5 := Tryz.zeroValue5
 t9 := Tryz.underlying9
 a9 := Tryz.isAgg9
 z9 := Tryz.sizeOf9
 v9 := Tryz.zeroValue9
 t21 := Tryz.underlying21
 a21 := Tryz.isAgg21
 z21 := Tryz.sizeOf21
 v21 := Tryz.zeroValue21
 t46 := Tryz.underlying159
 a46 := Tryz.isAgg159
 z46 := Tryz.sizeOf159
 v46 := Tryz.zeroValue159
 t105 := Tryz.underlying182
 a105 := Tryz.isAgg182
 z105 := Tryz.sizeOf182
 v105 := Tryz.zeroValue182
 t119 := Tryz.underlying195
 a119 := Tryz.isAgg195
 z119 := Tryz.sizeOf195
 t138 := Tryz.underlying197
 a138 := Tryz.isAgg197
 z138 := Tryz.sizeOf197
 v138 := Tryz.zeroValue197
 t139 := Tryz.underlying198
 a139 := Tryz.isAgg198
 z139 := Tryz.sizeOf198
 v139 := Tryz.zeroValue198
 g3 := by kernel_rfl
 g4 := by kernel_rfl }
def Tryz.lays264_ren : Go.Shelf.Ren := ⟨fun | 264 => 171 | n => n, fun | 53 => 175 | 46 => 159 | n => n, fun | n => n⟩
theorem Tryz.lays264 : Go.Proofs.Lays.n264 Tryz.prog Tryz.lays264_ren := {
 mixed := by kernel_rfl
 f264 := Tryz.func171.trans (congrArg some (by kernel_rfl))
 t46 := Tryz.underlying159
 a46 := Tryz.isAgg159
 z46 := Tryz.sizeOf159
 v46 := Tryz.zeroValue159
 t53 := Tryz.underlying175
 a53 := Tryz.isAgg175
 z53 := Tryz.sizeOf175
 v53 := Tryz.zeroValue175 }
open Go.RowKit Go.Lib in
theorem Tryz.bits_Mul64 (x y : Nat) (hx : x < 18446744073709551616) (hy : y < 18446744073709551616) (w : World) :
  Calls Tryz.prog 171 #[.int .u64 x, .int .u64 y] w fun e w' => e = .returned (.tuple #[.int .u64 ((x * y / 18446744073709551616 : Nat) : Int), .int .u64 ((x * y % 18446744073709551616 : Nat) : Int)]) ∧ w' = w := Any.bits_Mul64 Tryz.lays264 x y hx hy w
open Go.RowKit Go.Lib in
theorem Tryz.utf8_DecodeRuneInString (s : ByteArray) (w : World) (hT : Lib.Utf8Tabs 0 1 w) :
  Calls Tryz.prog 179 #[.string s] w fun e w' => e = .returned (.tuple #[.int .i32 (Lib.decodeGo s).1, .int .i64 (Lib.decodeGo s).2]) ∧ Below w.heap.size w w' := Any.utf8_DecodeRuneInString Tryz.lays197 s w hT
open Go.RowKit Go.Lib in
theorem Tryz.strings_ToLower_any (s : ByteArray) (w : World) (hs : s.size < 35184372088832) (hV : CaseVar 7 caseA w) (hT : Lib.Utf8Tabs 0 1 w) :
  Calls Tryz.prog 218 #[.string s] w fun e w' => e = .returned (.string ⟨(Lib.toLowerD s.data.toList).toArray⟩) ∧ Below w.heap.size w w' := Any.strings_ToLower_any Tryz.lays159 Tryz.Builder_Extra_159 s w hs hV hT
def Tryz.lays196_ren : Go.Shelf.Ren := ⟨fun | 196 => 169 | 259 => 194 | n => n, fun | 9 => 9 | 4 => 4 | 3 => 3 | 5 => 5 | 12 => 12 | 119 => 195 | 0 => 0 | 46 => 159 | 139 => 198 | 138 => 197 | 53 => 175 | n => n, fun | 3 => 0 | 4 => 1 | n => n⟩
theorem Tryz.lays196 : Go.Proofs.Lays.n196 Tryz.prog Tryz.lays196_ren := {
 mixed := by kernel_rfl
 f196 := Tryz.func169.trans (congrArg some (by kernel_rfl))
 f259 := Tryz.func194.trans (congrArg some (by kernel_rfl))
 t0 := Tryz.underlying0
 a0 := Tryz.isAgg0
 z0 := Tryz.sizeOf0
 v0 := Tryz.zeroValue0
 t3 := Tryz.underlying3
 a3 := Tryz.isAgg3
 z3 := Tryz.sizeOf3
 v3 := Tryz.zeroValue3
 t4 := Tryz.underlying4
 a4 := Tryz.isAgg4
 z4 := Tryz.sizeOf4
 v4 := Tryz.zeroValue4
 t5 := Tryz.underlying5
 a5 := Tryz.isAgg5
 z5 := Tryz.sizeOf5
 v5 := Tryz.zeroValue5
 t9 := Tryz.underlying9
 a9 := Tryz.isAgg9
 z9 := Tryz.sizeOf9
 v9 := Tryz.zeroValue9
 t12 := Tryz.underlying12
 a12 := Tryz.isAgg12
 z12 := Tryz.sizeOf12
 v12 := Tryz.zeroValue12
 t46 := Tryz.underlying159
 a46 := Tryz.isAgg159
 z46 := Tryz.sizeOf159
 v46 := Tryz.zeroValue159
 t53 := Tryz.underlying175
 a53 := Tryz.isAgg175
 z53 := Tryz.sizeOf175
 v53 := Tryz.zeroValue175
 t119 := Tryz.underlying195
 a119 := Tryz.isAgg195
 z119 := Tryz.sizeOf195
 t138 := Tryz.underlying197
 a138 := Tryz.isAgg197
 z138 := Tryz.sizeOf197
 v138 := Tryz.zeroValue197
 t139 := Tryz.underlying198
 a139 := Tryz.isAgg198
 z139 := Tryz.sizeOf198
 v139 := Tryz.zeroValue198
 g3 := by kernel_rfl
 g4 := by kernel_rfl }
theorem Tryz.utf8_ValidString (s : ByteArray) (w : World) (hs : s.size ≤ 9223372036854775807) (hT : Lib.Utf8Tabs 0 1 w) :
  Calls Tryz.prog 169 #[.string s] w fun e w' => e = .returned (.bool (Lib.validD s.data.toList)) ∧ RowKit.Below w.heap.size w w' := Any.utf8_ValidString Tryz.lays196 s w hs hT
end Go.Proofs
namespace Go.Proofs.YtlfblkekbcfjpaaGreatDoor
open Go.RowKit
def digI (n : Int) : Nat := Lib.nDigits n.natAbs
theorem nDig_le : ∀ k u, Lib.nDigits u ≤ k + 1 ↔ u < 10 ^ (k + 1)
 | 0, u => by
  by_cases h : u < 10
  ·rw [Lib.nDigits_small h]; simp -implicitDefEqProofs -dsimp; omega
  ·rw [Lib.nDigits_big h]
   have h2 : 0 < Lib.nDigits (u / 10) := by
    by_cases h3 : u / 10 < 10
    ·rw [Lib.nDigits_small h3]; omega
    ·rw [Lib.nDigits_big h3]; omega
   simp -implicitDefEqProofs -dsimp; omega
 | k + 1, u => by
  by_cases h : u < 10
  ·rw [Lib.nDigits_small h]
   have : 10 ≤ 10 ^ (k + 1 + 1) := by
    have := Nat.pow_le_pow_right (show 0 < 10 by omega) (show 1 ≤ k + 1 + 1 by omega)
    simpa using this
   omega
  ·rw [Lib.nDigits_big h, Nat.add_le_add_iff_right, nDig_le k (u / 10), Nat.pow_succ 10 (k + 1)]
   omega
theorem digI_17 (n : Int) : digI n ≤ 17 ↔ -100000000000000000 < n ∧ n < 100000000000000000 := by
 unfold digI; rw [nDig_le 16]; omega
theorem digI_le {n : Int} (h : I64 n) : digI n ≤ 19 := by
 obtain ⟨h1, h2⟩ := h
 unfold digI; rw [nDig_le 18]; omega
def nd (x : Int) : Nat := if x = 0 then 0 else Lib.nDigits x.natAbs
theorem tdiv10_abs (x : Int) : (x.tdiv 10).natAbs = x.natAbs / 10 := by rw [Int.natAbs_tdiv]; rfl
theorem nd_step {x : Int} (h : x ≠ 0) : nd x = nd (x.tdiv 10) + 1 := by
 have h1 := tdiv10_abs x
 unfold nd
 rw [if_neg h]
 by_cases h2 : x.natAbs < 10
 ·rw [Lib.nDigits_small h2, if_pos (by omega)]
 ·rw [Lib.nDigits_big h2, if_neg (by omega), h1]
theorem digI_nd (n : Int) : digI n = 1 + nd (n.tdiv 10) := by
 by_cases h : n = 0
 ·subst h; unfold digI nd; rw [Lib.nDigits_small (by decide)]; rfl
 ·have h1 := nd_step h
  have h2 : nd n = digI n := by unfold nd digI; rw [if_neg h]
  omega
def decOkP (n x : Int) : Bool := if x = 0 then decide (-1000000000000000 ≤ n ∧ n ≤ 1000000000000000) else decide (-16 ≤ x ∧ x ≤ -1) && decide (digI n ≤ 17) && decide (n.tmod 10 ≠ 0)
def fltOkP (m e : Int) : Bool :=
 if m = 0 then decide (e = 0) else decide (-65535 ≤ m ∧ m ≤ 65535) && decide (m.tmod 2 ≠ 0) && decide (-16 ≤ e ∧ e ≤ 45) && (decide (e ≤ 30) || decide (-65535 ≤ m * 2 ^ (e - 30).toNat ∧ m * 2 ^ (e - 30).toNat ≤ 65535))
def numE (a : Nat) (e : Int) : Nat := a * 2 ^ (-e).toNat
def denE (p : Nat) (e : Int) : Nat := p * 2 ^ e.toNat
def quE (a p : Nat) (e : Int) : Nat := numE a e / denE p e
def reE (a p : Nat) (e : Int) : Nat := numE a e % denE p e
def leastE (a p : Nat) (e : Int) : Prop := quE a p e ≤ 65535 ∧ ∀ e', -16 ≤ e' → e' < e → 65535 < quE a p e'
theorem quE_step (a p : Nat) (hp : 0 < p) (e : Int) : quE a p (e + 1) = quE a p e / 2 := by
 unfold quE numE denE
 rcases Int.lt_or_le e 0 with h | h
 ·have h1 : (-e).toNat = (-(e + 1)).toNat + 1 := by omega
  have h2 : e.toNat = 0 := by omega
  have h3 : (e + 1).toNat = 0 := by omega
  rw [h1, h2, h3, Nat.pow_succ, Nat.pow_zero, Nat.mul_one, Nat.div_div_eq_div_mul, ← Nat.mul_assoc]
  rw [Nat.mul_div_mul_right _ _ (by omega)]
 ·have h1 : (-e).toNat = 0 := by omega
  have h2 : (-(e + 1)).toNat = 0 := by omega
  have h3 : (e + 1).toNat = e.toNat + 1 := by omega
  rw [h1, h2, h3, Nat.pow_succ, Nat.pow_zero, Nat.mul_one, Nat.div_div_eq_div_mul, ← Nat.mul_assoc]
def roundE (a p : Nat) (e : Int) : Nat := if denE p e < 2 * reE a p e ∨ (2 * reE a p e = denE p e ∧ quE a p e % 2 = 1) then quE a p e + 1 else quE a p e
def oddP : Nat → Int → Int → Int × Int
 | 0, m, e => (m, e)
 | f + 1, m, e => if m.tmod 2 = 0 then oddP f (m.tdiv 2) (e + 1) else (m, e)
def fltNewP (m e : Int) : Option (Int × Int) := if m = 0 then some (0, 0) else if fltOkP (oddP 20 m e).1 (oddP 20 m e).2 then some (oddP 20 m e) else none
end Go.Proofs.YtlfblkekbcfjpaaGreatDoor
