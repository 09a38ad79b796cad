/- Part 34 of the proof: texts TryzShelf, D8, D9, M2, F1, D11, D12, L1, L3, R1, K1, K2, G3, H0, G6, H1, H2, K4. -/
import Derived.Test.YtdejnaokkdndeaaGreatDoorP30
import Derived.Test.YtdejnaokkdndeaaGreatDoorP33
import Derived.Shelf.Strings.Builder1
import Derived.Shelf.Strings.Builder2
import Derived.Shelf.Strings.OnBuilder
import Derived.Shelf.Strings.Trim
import Derived.Shelf.Small.Strs
import Derived.Shelf.Small.Wraps
import Derived.Shelf.Strings.BuilderF
import Derived.Shelf.Strings.BuilderK
import Derived.Shelf.Strconv.Atoi
import Derived.Shelf.Strconv.Itoa0
import Derived.Shelf.Strconv.Itoa1
import Derived.Shelf.LaysM
import Derived.Shelf.Strconv.Itoa2
import Derived.Shelf.Strconv.Itoa3
import Derived.Shelf.Strconv.AtoiErrFast
import Derived.Shelf.Strconv.ParseIntEmpty
import Derived.Shelf.Strconv.AtoiFail
import Derived.Shelf.Strconv.Clone
import Derived.Shelf.Strconv.SyntaxError
import Derived.Shelf.LaysC
import Derived.Shelf.Strconv.ToError
import Derived.Shelf.Strconv.Lower
import Derived.Shelf.Strconv.ParseUint10
import Derived.Shelf.Strconv.ParseUint10Empty
import Derived.Shelf.Strconv.ParseUint10Any
import Derived.Shelf.Strconv.ParseInt10
import Derived.Shelf.Strconv.AtoiLong
import Derived.Shelf.Strconv.AtoiInnerAll
import Derived.Shelf.Strconv.RangeError
import Derived.Shelf.Strconv.ToErrorRange
import Derived.Shelf.Strconv.AtoiAll
import Derived.Shelf.Strconv.ErrVarAll
import Derived.Shelf.Strconv.ParseUintEmpty
import Derived.Shelf.Strings.Search1
import Derived.Shelf.Strings.Search2
import Derived.Shelf.Strings.Search3
import Derived.Shelf.Strings.Cut
import Derived.Shelf.Strings.Count
import Derived.Shelf.Strings.Shaped
import Derived.Shelf.Strings.LastIndex
import Derived.Shelf.Strings.Prefix
import Derived.Shelf.Strings.Split
import Derived.Shelf.Strings.Replace
import Derived.Shelf.Strings.SplitShaped
import Derived.Shelf.Bits.Mul64
import Derived.Shelf.Strings.Repeat
import Derived.Shelf.Unicode.DecodeSlow
import Derived.Shelf.Unicode.DecodeAny
import Derived.Shelf.Slices.Turned
import Derived.Shelf.Slices.Equal
import Derived.Ground.Names2Prog
import Derived.Shelf.Slices.Clone
import Derived.Test.YtdejnaokkdndeaaGreatDoorProg
import Derived.Lib.AppendIntMem
import Derived.WalkKit
import Derived.WalkSpells
import Derived.WalkLawsBesides
import Derived.Deep.QuietTactic
import Derived.BigQuiet
import Derived.KernelRfl
import Derived.Lib.SplitLaws
import Derived.RecoverIn
set_option linter.all false
namespace Go.Proofs
open Go.Shelf
def Tryz.lays158_ren : Go.Shelf.Ren := ⟨fun | 158 => 194 | 165 => 248 | 166 => 249 | 167 => 250 | 169 => 251 | 230 => 252 | 203 => 253 | 240 => 313 | 241 => 314 | 197 => 310 | 118 => 315 | 168 => 316 | 270 => 317 | 262 => 318 | 276 => 357 | 277 => 358 | 260 => 355 | 242 => 359 | 313 => 360 | 278 => 384 | 274 => 385 | 275 => 386 | n => n, fun | 9 => 9 | 4 => 4 | 3 => 3 | 5 => 5 | 72 => 221 | 0 => 0 | 76 => 225 | 75 => 224 | 107 => 229 | 70 => 219 | 20 => 20 | 37 => 130 | 127 => 281 | 21 => 21 | 105 => 279 | 164 => 303 | 162 => 309 | 203 => 307 | 119 => 328 | 46 => 276 | 139 => 331 | 138 => 330 | 51 => 299 | 160 => 332 | 208 => 351 | 206 => 349 | 80 => 106 | n => n, fun | 13 => 4 | 3 => 6 | 4 => 7 | n => n⟩
theorem Tryz.lays158 : Go.Proofs.Lays.n158 Tryz.prog Tryz.lays158_ren := {
 mixed := by kernel_rfl
 f118 := Tryz.func315.trans (congrArg some (by kernel_rfl))
 f158 := Tryz.func194.trans (congrArg some (by kernel_rfl))
 f165 := Tryz.func248.trans (congrArg some (by kernel_rfl))
 f166 := Tryz.func249.trans (congrArg some (by kernel_rfl))
 f167 := Tryz.func250.trans (congrArg some (by kernel_rfl))
 f168 := Tryz.func316.trans (congrArg some (by kernel_rfl))
 f169 := Tryz.func251.trans (congrArg some (by kernel_rfl))
 f197 := Tryz.func310.trans (congrArg some (by kernel_rfl))
 f203 := Tryz.func253.trans (congrArg some (by kernel_rfl))
 f230 := Tryz.func252.trans (congrArg some (by kernel_rfl))
 f240 := Tryz.func313.trans (congrArg some (by kernel_rfl))
 f241 := Tryz.func314.trans (congrArg some (by kernel_rfl))
 f242 := Tryz.func359.trans (congrArg some (by kernel_rfl))
 f260 := Tryz.func355.trans (congrArg some (by kernel_rfl))
 f262 := Tryz.func318.trans (congrArg some (by kernel_rfl))
 f270 := Tryz.func317.trans (congrArg some (by kernel_rfl))
 f274 := Tryz.func385.trans (congrArg some (by kernel_rfl))
 f275 := Tryz.func386.trans (congrArg some (by kernel_rfl))
 f276 := Tryz.func357.trans (congrArg some (by kernel_rfl))
 f277 := Tryz.func358.trans (congrArg some (by kernel_rfl))
 f278 := Tryz.func384.trans (congrArg some (by kernel_rfl))
 f313 := Tryz.func360.trans (congrArg some (by kernel_rfl))
 t0 := Tryz.underlying0
 a0 := Tryz.isAgg0
 z0 := Tryz.sizeOf0
 v0 := Tryz.zeroValue0
 t3 := Tryz.underlying3
 a3 := Tryz.isAgg3
 z3 := Tryz.sizeOf3
 v3 := Tryz.zeroValue3
 t4 := Tryz.underlying4
 a4 := Tryz.isAgg4
 z4 := Tryz.sizeOf4
 v4 := Tryz.zeroValue4
 t5 := Tryz.underlying5
 a5 := Tryz.isAgg5
 z5 := Tryz.sizeOf5
 v5 := Tryz.zeroValue5
 t9 := Tryz.underlying9
 a9 := Tryz.isAgg9
 z9 := Tryz.sizeOf9
 v9 := Tryz.zeroValue9
 t20 := Tryz.underlying20
 a20 := Tryz.isAgg20
 z20 := Tryz.sizeOf20
 v20 := Tryz.zeroValue20
 t21 := Tryz.underlying21
 a21 := Tryz.isAgg21
 z21 := Tryz.sizeOf21
 v21 := Tryz.zeroValue21
 t37 := Tryz.underlying130
 a37 := Tryz.isAgg130
 z37 := Tryz.sizeOf130
 v37 := Tryz.zeroValue130
 t46 := Tryz.underlying276
 a46 := Tryz.isAgg276
 z46 := Tryz.sizeOf276
 v46 := Tryz.zeroValue276
 t51 := Tryz.underlying299
 a51 := Tryz.isAgg299
 z51 := Tryz.sizeOf299
 v51 := Tryz.zeroValue299
 t70 := Tryz.underlying219
 a70 := Tryz.isAgg219
 z70 := Tryz.sizeOf219
 v70 := Tryz.zeroValue219
 t72 := Tryz.underlying221
 a72 := Tryz.isAgg221
 z72 := Tryz.sizeOf221
 v72 := Tryz.zeroValue221
 t75 := Tryz.underlying224
 a75 := Tryz.isAgg224
 z75 := Tryz.sizeOf224
 v75 := Tryz.zeroValue224
 t76 := Tryz.underlying225
 a76 := Tryz.isAgg225
 z76 := Tryz.sizeOf225
 v76 := Tryz.zeroValue225
 t105 := Tryz.underlying279
 a105 := Tryz.isAgg279
 z105 := Tryz.sizeOf279
 v105 := Tryz.zeroValue279
 t107 := Tryz.underlying229
 a107 := Tryz.isAgg229
 z107 := Tryz.sizeOf229
 v107 := Tryz.zeroValue229
 t119 := Tryz.underlying328
 a119 := Tryz.isAgg328
 z119 := Tryz.sizeOf328
 t127 := Tryz.underlying281
 a127 := Tryz.isAgg281
 z127 := Tryz.sizeOf281
 v127 := Tryz.zeroValue281
 t138 := Tryz.underlying330
 a138 := Tryz.isAgg330
 z138 := Tryz.sizeOf330
 v138 := Tryz.zeroValue330
 t139 := Tryz.underlying331
 a139 := Tryz.isAgg331
 z139 := Tryz.sizeOf331
 v139 := Tryz.zeroValue331
 t160 := Tryz.underlying332
 a160 := Tryz.isAgg332
 z160 := Tryz.sizeOf332
 v160 := Tryz.zeroValue332
 t162 := Tryz.underlying309
 a162 := Tryz.isAgg309
 z162 := Tryz.sizeOf309
 v162 := Tryz.zeroValue309
 t164 := Tryz.underlying303
 a164 := Tryz.isAgg303
 z164 := Tryz.sizeOf303
 v164 := Tryz.zeroValue303
 t203 := Tryz.underlying307
 a203 := Tryz.isAgg307
 z203 := Tryz.sizeOf307
 v203 := Tryz.zeroValue307
 t206 := Tryz.underlying349
 a206 := Tryz.isAgg349
 z206 := Tryz.sizeOf349
 v206 := Tryz.zeroValue349
 t208 := Tryz.underlying351
 a208 := Tryz.isAgg351
 z208 := Tryz.sizeOf351
 v208 := Tryz.zeroValue351
 g3 := by kernel_rfl
 g4 := by kernel_rfl
 g13 := by kernel_rfl }
theorem Tryz.Builder_Extra_158 : Builder.Extra Tryz.prog Tryz.lays158_ren := {
 sizeBuilder := by kernel_rfl
 liesBuilder := by kernel_rfl
 t5 := Tryz.underlying5
 a5 := Tryz.isAgg5
 z5 := Tryz.sizeOf5
 v5 := Tryz.zeroValue5
 infoByte := by kernel_rfl
 cellsByte := by kernel_rfl
 sizeByte := by kernel_rfl
 neB5 := by decide }
open Go.RowKit in
theorem Tryz.strings_ToUpper_ascii (s : ByteArray) (w : World) (hs : s.size ≤ 140737488355328) (hascii : ∀ (j : Nat) (b : UInt8), s.data.toList[j]? = some b → b.toNat < 128) :
  Calls Tryz.prog 194 #[.string s] w fun e w' => e = .returned (.string ⟨(Lib.toUpperA s.data.toList).toArray⟩) ∧ Below w.heap.size w w' := Any.strings_ToUpper_ascii Tryz.lays158 Tryz.Builder_Extra_158 s w hs hascii
def Tryz.lays159_ren : Go.Shelf.Ren := ⟨fun | 159 => 195 | 165 => 248 | 166 => 249 | 167 => 250 | 169 => 251 | 230 => 252 | 204 => 254 | 240 => 313 | 241 => 314 | 197 => 310 | 118 => 315 | 168 => 316 | 270 => 317 | 262 => 318 | 276 => 357 | 277 => 358 | 260 => 355 | 242 => 359 | 313 => 360 | 278 => 384 | 274 => 385 | 275 => 386 | n => n, fun | 9 => 9 | 4 => 4 | 3 => 3 | 5 => 5 | 72 => 221 | 0 => 0 | 76 => 225 | 75 => 224 | 107 => 229 | 70 => 219 | 20 => 20 | 37 => 130 | 127 => 281 | 21 => 21 | 105 => 279 | 164 => 303 | 162 => 309 | 203 => 307 | 119 => 328 | 46 => 276 | 139 => 331 | 138 => 330 | 51 => 299 | 160 => 332 | 208 => 351 | 206 => 349 | 80 => 106 | n => n, fun | 13 => 4 | 3 => 6 | 4 => 7 | n => n⟩
theorem Tryz.lays159 : Go.Proofs.Lays.n159 Tryz.prog Tryz.lays159_ren := {
 mixed := by kernel_rfl
 f118 := Tryz.func315.trans (congrArg some (by kernel_rfl))
 f159 := Tryz.func195.trans (congrArg some (by kernel_rfl))
 f165 := Tryz.func248.trans (congrArg some (by kernel_rfl))
 f166 := Tryz.func249.trans (congrArg some (by kernel_rfl))
 f167 := Tryz.func250.trans (congrArg some (by kernel_rfl))
 f168 := Tryz.func316.trans (congrArg some (by kernel_rfl))
 f169 := Tryz.func251.trans (congrArg some (by kernel_rfl))
 f197 := Tryz.func310.trans (congrArg some (by kernel_rfl))
 f204 := Tryz.func254.trans (congrArg some (by kernel_rfl))
 f230 := Tryz.func252.trans (congrArg some (by kernel_rfl))
 f240 := Tryz.func313.trans (congrArg some (by kernel_rfl))
 f241 := Tryz.func314.trans (congrArg some (by kernel_rfl))
 f242 := Tryz.func359.trans (congrArg some (by kernel_rfl))
 f260 := Tryz.func355.trans (congrArg some (by kernel_rfl))
 f262 := Tryz.func318.trans (congrArg some (by kernel_rfl))
 f270 := Tryz.func317.trans (congrArg some (by kernel_rfl))
 f274 := Tryz.func385.trans (congrArg some (by kernel_rfl))
 f275 := Tryz.func386.trans (congrArg some (by kernel_rfl))
 f276 := Tryz.func357.trans (congrArg some (by kernel_rfl))
 f277 := Tryz.func358.trans (congrArg some (by kernel_rfl))
 f278 := Tryz.func384.trans (congrArg some (by kernel_rfl))
 f313 := Tryz.func360.trans (congrArg some (by kernel_rfl))
 t0 := Tryz.underlying0
 a0 := Tryz.isAgg0
 z0 := Tryz.sizeOf0
 v0 := Tryz.zeroValue0
 t3 := Tryz.underlying3
 a3 := Tryz.isAgg3
 z3 := Tryz.sizeOf3
 v3 := Tryz.zeroValue3
 t4 := Tryz.underlying4
 a4 := Tryz.isAgg4
 z4 := Tryz.sizeOf4
 v4 := Tryz.zeroValue4
 t5 := Tryz.underlying5
 a5 := Tryz.isAgg5
 z5 := Tryz.sizeOf5
 v5 := Tryz.zeroValue5
 t9 := Tryz.underlying9
 a9 := Tryz.isAgg9
 z9 := Tryz.sizeOf9
 v9 := Tryz.zeroValue9
 t20 := Tryz.underlying20
 a20 := Tryz.isAgg20
 z20 := Tryz.sizeOf20
 v20 := Tryz.zeroValue20
 t21 := Tryz.underlying21
 a21 := Tryz.isAgg21
 z21 := Tryz.sizeOf21
 v21 := Tryz.zeroValue21
 t37 := Tryz.underlying130
 a37 := Tryz.isAgg130
 z37 := Tryz.sizeOf130
 v37 := Tryz.zeroValue130
 t46 := Tryz.underlying276
 a46 := Tryz.isAgg276
 z46 := Tryz.sizeOf276
 v46 := Tryz.zeroValue276
 t51 := Tryz.underlying299
 a51 := Tryz.isAgg299
 z51 := Tryz.sizeOf299
 v51 := Tryz.zeroValue299
 t70 := Tryz.underlying219
 a70 := Tryz.isAgg219
 z70 := Tryz.sizeOf219
 v70 := Tryz.zeroValue219
 t72 := Tryz.underlying221
 a72 := Tryz.isAgg221
 z72 := Tryz.sizeOf221
 v72 := Tryz.zeroValue221
 t75 := Tryz.underlying224
 a75 := Tryz.isAgg224
 z75 := Tryz.sizeOf224
 v75 := Tryz.zeroValue224
 t76 := Tryz.underlying225
 a76 := Tryz.isAgg225
 z76 := Tryz.sizeOf225
 v76 := Tryz.zeroValue225
 t105 := Tryz.underlying279
 a105 := Tryz.isAgg279
 z105 := Tryz.sizeOf279
 v105 := Tryz.zeroValue279
 t107 := Tryz.underlying229
 a107 := Tryz.isAgg229
 z107 := Tryz.sizeOf229
 v107 := Tryz.zeroValue229
 t119 := Tryz.underlying328
 a119 := Tryz.isAgg328
 z119 := Tryz.sizeOf328
 t127 := Tryz.underlying281
 a127 := Tryz.isAgg281
 z127 := Tryz.sizeOf281
 v127 := Tryz.zeroValue281
 t138 := Tryz.underlying330
 a138 := Tryz.isAgg330
 z138 := Tryz.sizeOf330
 v138 := Tryz.zeroValue330
 t139 := Tryz.underlying331
 a139 := Tryz.isAgg331
 z139 := Tryz.sizeOf331
 v139 := Tryz.zeroValue331
 t160 := Tryz.underlying332
 a160 := Tryz.isAgg332
 z160 := Tryz.sizeOf332
 v160 := Tryz.zeroValue332
 t162 := Tryz.underlying309
 a162 := Tryz.isAgg309
 z162 := Tryz.sizeOf309
 v162 := Tryz.zeroValue309
 t164 := Tryz.underlying303
 a164 := Tryz.isAgg303
 z164 := Tryz.sizeOf303
 v164 := Tryz.zeroValue303
 t203 := Tryz.underlying307
 a203 := Tryz.isAgg307
 z203 := Tryz.sizeOf307
 v203 := Tryz.zeroValue307
 t206 := Tryz.underlying349
 a206 := Tryz.isAgg349
 z206 := Tryz.sizeOf349
 v206 := Tryz.zeroValue349
 t208 := Tryz.underlying351
 a208 := Tryz.isAgg351
 z208 := Tryz.sizeOf351
 v208 := Tryz.zeroValue351
 g3 := by kernel_rfl
 g4 := by kernel_rfl
 g13 := by kernel_rfl }
theorem Tryz.Builder_Extra_159 : Builder.Extra Tryz.prog Tryz.lays159_ren := {
 sizeBuilder := by kernel_rfl
 liesBuilder := by kernel_rfl
 t5 := Tryz.underlying5
 a5 := Tryz.isAgg5
 z5 := Tryz.sizeOf5
 v5 := Tryz.zeroValue5
 infoByte := by kernel_rfl
 cellsByte := by kernel_rfl
 sizeByte := by kernel_rfl
 neB5 := by decide }
open Go.RowKit in
theorem Tryz.strings_ToLower_ascii (s : ByteArray) (w : World) (hs : s.size ≤ 140737488355328) (hascii : ∀ (j : Nat) (b : UInt8), s.data.toList[j]? = some b → b.toNat < 128) :
  Calls Tryz.prog 195 #[.string s] w fun e w' => e = .returned (.string ⟨(Lib.toLowerA s.data.toList).toArray⟩) ∧ Below w.heap.size w w' := Any.strings_ToLower_ascii Tryz.lays159 Tryz.Builder_Extra_159 s w hs hascii
def Tryz.lays160_ren : Go.Shelf.Ren := ⟨fun | 160 => 196 | 232 => 256 | 231 => 255 | 227 => 257 | 234 => 259 | 233 => 258 | 236 => 261 | 235 => 260 | 228 => 319 | 271 => 321 | 151 => 320 | 197 => 310 | 120 => 362 | 152 => 361 | 260 => 355 | 137 => 331 | 119 => 387 | 224 => 307 | 225 => 306 | 217 => 305 | 266 => 353 | n => n, fun | 9 => 9 | 4 => 4 | 3 => 3 | 5 => 5 | 117 => 233 | 116 => 232 | 0 => 0 | 124 => 236 | 21 => 21 | 105 => 279 | 46 => 276 | 119 => 328 | 139 => 331 | 138 => 330 | n => n, fun | 3 => 6 | 4 => 7 | n => n⟩
theorem Tryz.lays160 : Go.Proofs.Lays.n160 Tryz.prog Tryz.lays160_ren := {
 mixed := by kernel_rfl
 f119 := Tryz.func387.trans (congrArg some (by kernel_rfl))
 f120 := Tryz.func362.trans (congrArg some (by kernel_rfl))
 f137 := Tryz.func331.trans (congrArg some (by kernel_rfl))
 f151 := Tryz.func320.trans (congrArg some (by kernel_rfl))
 f152 := Tryz.func361.trans (congrArg some (by kernel_rfl))
 f160 := Tryz.func196.trans (congrArg some (by kernel_rfl))
 f197 := Tryz.func310.trans (congrArg some (by kernel_rfl))
 f217 := Tryz.func305.trans (congrArg some (by kernel_rfl))
 f224 := Tryz.func307.trans (congrArg some (by kernel_rfl))
 f225 := Tryz.func306.trans (congrArg some (by kernel_rfl))
 f227 := Tryz.func257.trans (congrArg some (by kernel_rfl))
 f228 := Tryz.func319.trans (congrArg some (by kernel_rfl))
 f231 := Tryz.func255.trans (congrArg some (by kernel_rfl))
 f232 := Tryz.func256.trans (congrArg some (by kernel_rfl))
 f233 := Tryz.func258.trans (congrArg some (by kernel_rfl))
 f234 := Tryz.func259.trans (congrArg some (by kernel_rfl))
 f235 := Tryz.func260.trans (congrArg some (by kernel_rfl))
 f236 := Tryz.func261.trans (congrArg some (by kernel_rfl))
 f260 := Tryz.func355.trans (congrArg some (by kernel_rfl))
 f266 := Tryz.func353.trans (congrArg some (by kernel_rfl))
 f271 := Tryz.func321.trans (congrArg some (by kernel_rfl))
 t0 := Tryz.underlying0
 a0 := Tryz.isAgg0
 z0 := Tryz.sizeOf0
 v0 := Tryz.zeroValue0
 t3 := Tryz.underlying3
 a3 := Tryz.isAgg3
 z3 := Tryz.sizeOf3
 v3 := Tryz.zeroValue3
 t4 := Tryz.underlying4
 a4 := Tryz.isAgg4
 z4 := Tryz.sizeOf4
 v4 := Tryz.zeroValue4
 t5 := Tryz.underlying5
 a5 := Tryz.isAgg5
 z5 := Tryz.sizeOf5
 v5 := Tryz.zeroValue5
 t9 := Tryz.underlying9
 a9 := Tryz.isAgg9
 z9 := Tryz.sizeOf9
 v9 := Tryz.zeroValue9
 t21 := Tryz.underlying21
 a21 := Tryz.isAgg21
 z21 := Tryz.sizeOf21
 v21 := Tryz.zeroValue21
 t46 := Tryz.underlying276
 a46 := Tryz.isAgg276
 z46 := Tryz.sizeOf276
 v46 := Tryz.zeroValue276
 t105 := Tryz.underlying279
 a105 := Tryz.isAgg279
 z105 := Tryz.sizeOf279
 v105 := Tryz.zeroValue279
 t116 := Tryz.underlying232
 a116 := Tryz.isAgg232
 z116 := Tryz.sizeOf232
 t117 := Tryz.underlying233
 a117 := Tryz.isAgg233
 z117 := Tryz.sizeOf233
 v117 := Tryz.zeroValue233
 t119 := Tryz.underlying328
 a119 := Tryz.isAgg328
 z119 := Tryz.sizeOf328
 t124 := Tryz.underlying236
 a124 := Tryz.isAgg236
 z124 := Tryz.sizeOf236
 v124 := Tryz.zeroValue236
 t138 := Tryz.underlying330
 a138 := Tryz.isAgg330
 z138 := Tryz.sizeOf330
 v138 := Tryz.zeroValue330
 t139 := Tryz.underlying331
 a139 := Tryz.isAgg331
 z139 := Tryz.sizeOf331
 v139 := Tryz.zeroValue331
 g3 := by kernel_rfl
 g4 := by kernel_rfl }
open Go.RowKit in
theorem Tryz.strings_Trim_one (s : ByteArray) (c : UInt8) (hc : c.toNat < 128) (w : World) (hs : s.size ≤ 9223372036854775807) :
  Calls Tryz.prog 196 #[.string s, .string ⟨#[c]⟩] w fun e w' => e = .returned (.string ⟨(Lib.trimB s.data.toList c).toArray⟩) ∧ (w' = w ∨ w' = w.drew) := Any.strings_Trim_one Tryz.lays160 s c hc w hs
def Tryz.lays103_ren : Go.Shelf.Ren := ⟨fun | 103 => 246 | 210 => 312 | 206 => 356 | n => n, fun | 9 => 9 | 4 => 4 | 24 => 183 | 3 => 3 | n => n, fun | n => n⟩
theorem Tryz.lays103 : Go.Proofs.Lays.n103 Tryz.prog Tryz.lays103_ren := {
 mixed := by kernel_rfl
 f103 := Tryz.func246.trans (congrArg some (by kernel_rfl))
 f206 := Tryz.func356.trans (congrArg some (by kernel_rfl))
 f210 := Tryz.func312.trans (congrArg some (by kernel_rfl))
 t3 := Tryz.underlying3
 a3 := Tryz.isAgg3
 z3 := Tryz.sizeOf3
 v3 := Tryz.zeroValue3
 t4 := Tryz.underlying4
 a4 := Tryz.isAgg4
 z4 := Tryz.sizeOf4
 v4 := Tryz.zeroValue4
 t9 := Tryz.underlying9
 a9 := Tryz.isAgg9
 z9 := Tryz.sizeOf9
 v9 := Tryz.zeroValue9
 t24 := Tryz.underlying183
 a24 := Tryz.isAgg183
 z24 := Tryz.sizeOf183
 v24 := Tryz.zeroValue183 }
open Go.RowKit in
theorem Tryz.strings_CutPrefix (s p : ByteArray) (w : World) :
  Calls Tryz.prog 246 #[.string s, .string p] w fun e w' => e = .returned (.tuple #[.string ⟨(Lib.trimPrefix s.data.toList p.data.toList).toArray⟩, .bool (Lib.hasPrefix s.data.toList p.data.toList)]) ∧ w' = w := Any.strings_CutPrefix Tryz.lays103 s p w
def Tryz.lays122_ren : Go.Shelf.Ren := ⟨fun | 122 => 281 | 215 => 340 | n => n, fun | 3 => 3 | 4 => 4 | n => n, fun | n => n⟩
theorem Tryz.lays122 : Go.Proofs.Lays.n122 Tryz.prog Tryz.lays122_ren := {
 mixed := by kernel_rfl
 f122 := Tryz.func281.trans (congrArg some (by kernel_rfl))
 f215 := Tryz.func340.trans (congrArg some (by kernel_rfl))
 t3 := Tryz.underlying3
 a3 := Tryz.isAgg3
 z3 := Tryz.sizeOf3
 v3 := Tryz.zeroValue3
 t4 := Tryz.underlying4
 a4 := Tryz.isAgg4
 z4 := Tryz.sizeOf4
 v4 := Tryz.zeroValue4 }
open Go.RowKit in
theorem Tryz.cmp_Compare_int (x y : Int) (w : World) :
  Calls Tryz.prog 281 #[.int .i64 x, .int .i64 y] w fun e w' => e = .returned (.int .i64 (Lib.compareInt x y)) ∧ w' = w := Any.cmp_Compare_int Tryz.lays122 x y w
def Tryz.laysM171_ren : Go.Shelf.Ren := ⟨fun | 171 => 264 | 243 => 325 | 246 => 368 | 283 => 373 | 284 => 374 | 285 => 375 | 286 => 376 | 129 => 377 | 317 => 392 | 318 => 393 | 319 => 394 | 320 => 395 | 337 => 401 | 338 => 402 | n => n, fun | 3 => 3 | 9 => 9 | 2 => 2 | 4 => 4 | 171 => 318 | 0 => 0 | 53 => 250 | 37 => 130 | 5 => 5 | 173 => 320 | 212 => 342 | 51 => 299 | 20 => 20 | 213 => 343 | 46 => 276 | 232 => 358 | 233 => 359 | n => n, fun | 17 => 10 | 18 => 11 | 19 => 12 | n => n⟩
theorem Tryz.laysM171 : Go.Proofs.LaysM.n171 Tryz.prog Tryz.laysM171_ren := {
 mixed := by kernel_rfl
 f129 := Tryz.func377.trans (congrArg some (by kernel_rfl))
 f171 := Tryz.func264.trans (congrArg some (by kernel_rfl))
 f243 := Tryz.func325.trans (congrArg some (by kernel_rfl))
 f246 := Tryz.func368.trans (congrArg some (by kernel_rfl))
 f283 := Tryz.func373.trans (congrArg some (by kernel_rfl))
 f284 := Tryz.func374.trans (congrArg some (by kernel_rfl))
 f285 := Tryz.func375.trans (congrArg some (by kernel_rfl))
 f286 := Tryz.func376.trans (congrArg some (by kernel_rfl))
 f317 := Tryz.func392.trans (congrArg some (by kernel_rfl))
 f318 := Tryz.func393.trans (congrArg some (by kernel_rfl))
 f319 := Tryz.func394.trans (congrArg some (by kernel_rfl))
 f320 := Tryz.func395.trans (congrArg some (by kernel_rfl))
 f337 := Tryz.func401.trans (congrArg some (by kernel_rfl))
 f338 := Tryz.func402.trans (congrArg some (by kernel_rfl))
 t0 := Tryz.underlying0
 a0 := Tryz.isAgg0
 z0 := Tryz.sizeOf0
 v0 := Tryz.zeroValue0
 t2 := Tryz.underlying2
 a2 := Tryz.isAgg2
 z2 := Tryz.sizeOf2
 v2 := Tryz.zeroValue2
 t3 := Tryz.underlying3
 a3 := Tryz.isAgg3
 z3 := Tryz.sizeOf3
 v3 := Tryz.zeroValue3
 t4 := Tryz.underlying4
 a4 := Tryz.isAgg4
 z4 := Tryz.sizeOf4
 v4 := Tryz.zeroValue4
 t5 := Tryz.underlying5
 a5 := Tryz.isAgg5
 z5 := Tryz.sizeOf5
 v5 := Tryz.zeroValue5
 t9 := Tryz.underlying9
 a9 := Tryz.isAgg9
 z9 := Tryz.sizeOf9
 v9 := Tryz.zeroValue9
 t20 := Tryz.underlying20
 a20 := Tryz.isAgg20
 z20 := Tryz.sizeOf20
 v20 := Tryz.zeroValue20
 t37 := Tryz.underlying130
 a37 := Tryz.isAgg130
 z37 := Tryz.sizeOf130
 v37 := Tryz.zeroValue130
 t46 := Tryz.underlying276
 a46 := Tryz.isAgg276
 z46 := Tryz.sizeOf276
 v46 := Tryz.zeroValue276
 t51 := Tryz.underlying299
 a51 := Tryz.isAgg299
 z51 := Tryz.sizeOf299
 v51 := Tryz.zeroValue299
 t53 := Tryz.underlying250
 a53 := Tryz.isAgg250
 z53 := Tryz.sizeOf250
 v53 := Tryz.zeroValue250
 t171 := Tryz.underlying318
 a171 := Tryz.isAgg318
 z171 := Tryz.sizeOf318
 v171 := Tryz.zeroValue318
 t173 := Tryz.underlying320
 a173 := Tryz.isAgg320
 z173 := Tryz.sizeOf320
 v173 := Tryz.zeroValue320
 t212 := Tryz.underlying342
 a212 := Tryz.isAgg342
 z212 := Tryz.sizeOf342
 v212 := Tryz.zeroValue342
 t213 := Tryz.underlying343
 a213 := Tryz.isAgg343
 z213 := Tryz.sizeOf343
 t232 := Tryz.underlying358
 a232 := Tryz.isAgg358
 z232 := Tryz.sizeOf358
 v232 := Tryz.zeroValue358
 t233 := Tryz.underlying359
 a233 := Tryz.isAgg359
 z233 := Tryz.sizeOf359
 v233 := Tryz.zeroValue359
 g17 := by kernel_rfl
 g18 := by kernel_rfl
 g19 := by kernel_rfl
 i0 := by kernel_rfl
 i2 := by kernel_rfl
 i3 := by kernel_rfl
 i4 := by kernel_rfl
 i5 := by kernel_rfl
 i9 := by kernel_rfl
 i20 := by kernel_rfl
 i37 := by kernel_rfl
 i46 := by kernel_rfl
 i51 := by kernel_rfl
 i53 := by kernel_rfl
 i171 := by kernel_rfl
 i173 := by kernel_rfl
 i212 := by kernel_rfl
 i232 := by kernel_rfl
 i233 := by kernel_rfl
 m17 := by kernel_rfl
 m18 := by kernel_rfl
 m19 := by kernel_rfl }
open Go.RowKit Go.Sort Go.Lib in
theorem Tryz.strconv_Itoa (n : Int) (h0 : -9223372036854775808 ≤ n) (h1 : n ≤ 9223372036854775807) (w : World) (htab : Lib.TabIs Tryz.prog w "internal/strconv.uint64pow10" .u64 Lib.pow10Tab) :
  Calls Tryz.prog 264 #[.int .i64 n] w fun e w' => e = .returned (.string ⟨(Lib.itoa n).toArray⟩) ∧ ∃ k os, w' = grow (w.drewN k) os := Any.strconv_Itoa Tryz.laysM171 n h0 h1 w htab
def Tryz.lays217_ren : Go.Shelf.Ren := ⟨fun | 217 => 305 | 266 => 353 | n => n, fun | 9 => 9 | 5 => 5 | 3 => 3 | n => n, fun | n => n⟩
theorem Tryz.lays217 : Go.Proofs.Lays.n217 Tryz.prog Tryz.lays217_ren := {
 mixed := by kernel_rfl
 f217 := Tryz.func305.trans (congrArg some (by kernel_rfl))
 f266 := Tryz.func353.trans (congrArg some (by kernel_rfl))
 t3 := Tryz.underlying3
 a3 := Tryz.isAgg3
 z3 := Tryz.sizeOf3
 v3 := Tryz.zeroValue3
 t5 := Tryz.underlying5
 a5 := Tryz.isAgg5
 z5 := Tryz.sizeOf5
 v5 := Tryz.zeroValue5
 t9 := Tryz.underlying9
 a9 := Tryz.isAgg9
 z9 := Tryz.sizeOf9
 v9 := Tryz.zeroValue9 }
open Go.RowKit Go.Lib in
theorem Tryz.stringslite_IndexByte (s : ByteArray) (c : Int) (w : World) :
  Calls Tryz.prog 305 #[.string s, .int .u8 c] w fun e w' => e = .returned (.int .i64 (Lib.indexByte s.data.toList c.toNat.toUInt8)) ∧ w' = w := Any.stringslite_IndexByte Tryz.lays217 s c w
def Tryz.lays145_ren : Go.Shelf.Ren := ⟨fun | 145 => 101 | 220 => 183 | 219 => 241 | 217 => 305 | 225 => 306 | 224 => 307 | 267 => 308 | 266 => 353 | 314 => 354 | n => n, fun | 9 => 9 | 4 => 4 | 59 => 145 | 3 => 3 | 5 => 5 | 46 => 276 | 146 => 300 | 51 => 299 | n => n, fun | 1 => 1 | n => n⟩
theorem Tryz.lays145 : Go.Proofs.Lays.n145 Tryz.prog Tryz.lays145_ren := {
 mixed := by kernel_rfl
 f145 := Tryz.func101.trans (congrArg some (by kernel_rfl))
 f217 := Tryz.func305.trans (congrArg some (by kernel_rfl))
 f219 := Tryz.func241.trans (congrArg some (by kernel_rfl))
 f220 := Tryz.func183.trans (congrArg some (by kernel_rfl))
 f224 := Tryz.func307.trans (congrArg some (by kernel_rfl))
 f225 := Tryz.func306.trans (congrArg some (by kernel_rfl))
 f266 := Tryz.func353.trans (congrArg some (by kernel_rfl))
 f267 := Tryz.func308.trans (congrArg some (by kernel_rfl))
 f314 := Tryz.func354.trans (congrArg some (by kernel_rfl))
 t3 := Tryz.underlying3
 a3 := Tryz.isAgg3
 z3 := Tryz.sizeOf3
 v3 := Tryz.zeroValue3
 t4 := Tryz.underlying4
 a4 := Tryz.isAgg4
 z4 := Tryz.sizeOf4
 v4 := Tryz.zeroValue4
 t5 := Tryz.underlying5
 a5 := Tryz.isAgg5
 z5 := Tryz.sizeOf5
 v5 := Tryz.zeroValue5
 t9 := Tryz.underlying9
 a9 := Tryz.isAgg9
 z9 := Tryz.sizeOf9
 v9 := Tryz.zeroValue9
 t46 := Tryz.underlying276
 a46 := Tryz.isAgg276
 z46 := Tryz.sizeOf276
 v46 := Tryz.zeroValue276
 t51 := Tryz.underlying299
 a51 := Tryz.isAgg299
 z51 := Tryz.sizeOf299
 v51 := Tryz.zeroValue299
 t59 := Tryz.underlying145
 a59 := Tryz.isAgg145
 z59 := Tryz.sizeOf145
 v59 := Tryz.zeroValue145
 t146 := Tryz.underlying300
 a146 := Tryz.isAgg300
 z146 := Tryz.sizeOf300
 v146 := Tryz.zeroValue300
 g1 := by kernel_rfl }
open Go.RowKit Go.Lib in
theorem Tryz.strings_Cut (s sep : ByteArray) (m : Int) (w : World) (hs : s.size < 4294967281) (hm : w.cell? ⟨1, 0, none⟩ = some (.int .i64 m)) :
  Calls Tryz.prog 101 #[.string s, .string sep] w fun e w' => e = .returned (.tuple #[.string ⟨(Lib.cut s.data.toList sep.data.toList).1.toArray⟩, .string ⟨(Lib.cut s.data.toList sep.data.toList).2.1.toArray⟩, .bool (Lib.cut s.data.toList sep.data.toList).2.2]) ∧ ∃ n, w' = w.drewN n := Any.strings_Cut Tryz.lays145 s sep m w hs hm
def Tryz.lays99_ren : Go.Shelf.Ren := ⟨fun | 99 => 371 | 206 => 356 | n => n, fun | 9 => 9 | 4 => 4 | 3 => 3 | n => n, fun | n => n⟩
theorem Tryz.lays99 : Go.Proofs.Lays.n99 Tryz.prog Tryz.lays99_ren := {
 mixed := by kernel_rfl
 f99 := Tryz.func371.trans (congrArg some (by kernel_rfl))
 f206 := Tryz.func356.trans (congrArg some (by kernel_rfl))
 t3 := Tryz.underlying3
 a3 := Tryz.isAgg3
 z3 := Tryz.sizeOf3
 v3 := Tryz.zeroValue3
 t4 := Tryz.underlying4
 a4 := Tryz.isAgg4
 z4 := Tryz.sizeOf4
 v4 := Tryz.zeroValue4
 t9 := Tryz.underlying9
 a9 := Tryz.isAgg9
 z9 := Tryz.sizeOf9
 v9 := Tryz.zeroValue9 }
open Go.RowKit Go.Lib in
theorem Tryz.strings_HasPrefix (s p : ByteArray) (w : World) :
  Calls Tryz.prog 371 #[.string s, .string p] w fun e w' => e = .returned (.bool (Lib.hasPrefix s.data.toList p.data.toList)) ∧ w' = w := Any.strings_HasPrefix Tryz.lays99 s p w
def Tryz.lays146_ren : Go.Shelf.Ren := ⟨fun | 146 => 102 | 221 => 184 | 268 => 242 | 138 => 243 | 143 => 244 | 195 => 309 | 197 => 310 | 218 => 311 | 219 => 241 | 260 => 355 | 217 => 305 | 225 => 306 | 224 => 307 | 267 => 308 | 266 => 353 | 314 => 354 | n => n, fun | 9 => 9 | 31 => 39 | 3 => 3 | 4 => 4 | 0 => 0 | 105 => 279 | 21 => 21 | 5 => 5 | 46 => 276 | 119 => 328 | 139 => 331 | 138 => 330 | 146 => 300 | 51 => 299 | n => n, fun | 1 => 1 | 3 => 6 | 4 => 7 | n => n⟩
theorem Tryz.lays146 : Go.Proofs.Lays.n146 Tryz.prog Tryz.lays146_ren := {
 mixed := by kernel_rfl
 f138 := Tryz.func243.trans (congrArg some (by kernel_rfl))
 f143 := Tryz.func244.trans (congrArg some (by kernel_rfl))
 f146 := Tryz.func102.trans (congrArg some (by kernel_rfl))
 f195 := Tryz.func309.trans (congrArg some (by kernel_rfl))
 f197 := Tryz.func310.trans (congrArg some (by kernel_rfl))
 f217 := Tryz.func305.trans (congrArg some (by kernel_rfl))
 f218 := Tryz.func311.trans (congrArg some (by kernel_rfl))
 f219 := Tryz.func241.trans (congrArg some (by kernel_rfl))
 f221 := Tryz.func184.trans (congrArg some (by kernel_rfl))
 f224 := Tryz.func307.trans (congrArg some (by kernel_rfl))
 f225 := Tryz.func306.trans (congrArg some (by kernel_rfl))
 f260 := Tryz.func355.trans (congrArg some (by kernel_rfl))
 f266 := Tryz.func353.trans (congrArg some (by kernel_rfl))
 f267 := Tryz.func308.trans (congrArg some (by kernel_rfl))
 f268 := Tryz.func242.trans (congrArg some (by kernel_rfl))
 f314 := Tryz.func354.trans (congrArg some (by kernel_rfl))
 t0 := Tryz.underlying0
 a0 := Tryz.isAgg0
 z0 := Tryz.sizeOf0
 v0 := Tryz.zeroValue0
 t3 := Tryz.underlying3
 a3 := Tryz.isAgg3
 z3 := Tryz.sizeOf3
 v3 := Tryz.zeroValue3
 t4 := Tryz.underlying4
 a4 := Tryz.isAgg4
 z4 := Tryz.sizeOf4
 v4 := Tryz.zeroValue4
 t5 := Tryz.underlying5
 a5 := Tryz.isAgg5
 z5 := Tryz.sizeOf5
 v5 := Tryz.zeroValue5
 t9 := Tryz.underlying9
 a9 := Tryz.isAgg9
 z9 := Tryz.sizeOf9
 v9 := Tryz.zeroValue9
 t21 := Tryz.underlying21
 a21 := Tryz.isAgg21
 z21 := Tryz.sizeOf21
 v21 := Tryz.zeroValue21
 t31 := Tryz.underlying39
 a31 := Tryz.isAgg39
 z31 := Tryz.sizeOf39
 v31 := Tryz.zeroValue39
 t46 := Tryz.underlying276
 a46 := Tryz.isAgg276
 z46 := Tryz.sizeOf276
 v46 := Tryz.zeroValue276
 t51 := Tryz.underlying299
 a51 := Tryz.isAgg299
 z51 := Tryz.sizeOf299
 v51 := Tryz.zeroValue299
 t105 := Tryz.underlying279
 a105 := Tryz.isAgg279
 z105 := Tryz.sizeOf279
 v105 := Tryz.zeroValue279
 t119 := Tryz.underlying328
 a119 := Tryz.isAgg328
 z119 := Tryz.sizeOf328
 t138 := Tryz.underlying330
 a138 := Tryz.isAgg330
 z138 := Tryz.sizeOf330
 v138 := Tryz.zeroValue330
 t139 := Tryz.underlying331
 a139 := Tryz.isAgg331
 z139 := Tryz.sizeOf331
 v139 := Tryz.zeroValue331
 t146 := Tryz.underlying300
 a146 := Tryz.isAgg300
 z146 := Tryz.sizeOf300
 v146 := Tryz.zeroValue300
 g1 := by kernel_rfl
 g3 := by kernel_rfl
 g4 := by kernel_rfl }
open Go.RowKit Go.Lib in
theorem Tryz.strings_Split (s sep : ByteArray) (m : Int) (w : World) (hs : s.size < 4294967281) (hm : w.cell? ⟨1, 0, none⟩ = some (.int .i64 m)) (h1 : 1 ≤ sep.size) :
  Calls Tryz.prog 102 #[.string s, .string sep] w fun e w' =>
   e = .returned (.slice (some ⟨w.heap.size, 0, none⟩) (Lib.countB s sep + 1) (Lib.countB s sep + 1)) ∧ w' = w.alloc (.cells ((Lib.splitB sep 0 (Lib.countB s sep) s).map Value.string).toArray 9) := Any.strings_Split Tryz.lays146 (by kernel_rfl) s sep m w hs hm h1
def Tryz.lays105_ren : Go.Shelf.Ren := ⟨fun | 105 => 379 | 212 => 396 | 99 => 371 | 165 => 248 | 166 => 249 | 170 => 397 | 169 => 251 | 263 => 403 | 264 => 278 | 206 => 356 | 240 => 313 | 241 => 314 | 276 => 357 | 277 => 358 | n => n, fun | 9 => 9 | 3 => 3 | 4 => 4 | 20 => 20 | 0 => 0 | 46 => 276 | 109 => 345 | 5 => 5 | 72 => 221 | 76 => 225 | 51 => 299 | 146 => 300 | 53 => 250 | 148 => 253 | 70 => 219 | 37 => 130 | 75 => 224 | 127 => 281 | 164 => 303 | 80 => 106 | n => n, fun | n => n⟩
theorem Tryz.lays105 : Go.Proofs.Lays.n105 Tryz.prog Tryz.lays105_ren := {
 mixed := by kernel_rfl
 f99 := Tryz.func371.trans (congrArg some (by kernel_rfl))
 f105 := Tryz.func379.trans (congrArg some (by kernel_rfl))
 f165 := Tryz.func248.trans (congrArg some (by kernel_rfl))
 f166 := Tryz.func249.trans (congrArg some (by kernel_rfl))
 f169 := Tryz.func251.trans (congrArg some (by kernel_rfl))
 f170 := Tryz.func397.trans (congrArg some (by kernel_rfl))
 f206 := Tryz.func356.trans (congrArg some (by kernel_rfl))
 f212 := Tryz.func396.trans (congrArg some (by kernel_rfl))
 f240 := Tryz.func313.trans (congrArg some (by kernel_rfl))
 f241 := Tryz.func314.trans (congrArg some (by kernel_rfl))
 f263 := Tryz.func403.trans (congrArg some (by kernel_rfl))
 f264 := Tryz.func278.trans (congrArg some (by kernel_rfl))
 f276 := Tryz.func357.trans (congrArg some (by kernel_rfl))
 f277 := Tryz.func358.trans (congrArg some (by kernel_rfl))
 t0 := Tryz.underlying0
 a0 := Tryz.isAgg0
 z0 := Tryz.sizeOf0
 v0 := Tryz.zeroValue0
 t3 := Tryz.underlying3
 a3 := Tryz.isAgg3
 z3 := Tryz.sizeOf3
 v3 := Tryz.zeroValue3
 t4 := Tryz.underlying4
 a4 := Tryz.isAgg4
 z4 := Tryz.sizeOf4
 v4 := Tryz.zeroValue4
 t5 := Tryz.underlying5
 a5 := Tryz.isAgg5
 z5 := Tryz.sizeOf5
 v5 := Tryz.zeroValue5
 t9 := Tryz.underlying9
 a9 := Tryz.isAgg9
 z9 := Tryz.sizeOf9
 v9 := Tryz.zeroValue9
 t20 := Tryz.underlying20
 a20 := Tryz.isAgg20
 z20 := Tryz.sizeOf20
 v20 := Tryz.zeroValue20
 t37 := Tryz.underlying130
 a37 := Tryz.isAgg130
 z37 := Tryz.sizeOf130
 v37 := Tryz.zeroValue130
 t46 := Tryz.underlying276
 a46 := Tryz.isAgg276
 z46 := Tryz.sizeOf276
 v46 := Tryz.zeroValue276
 t51 := Tryz.underlying299
 a51 := Tryz.isAgg299
 z51 := Tryz.sizeOf299
 v51 := Tryz.zeroValue299
 t53 := Tryz.underlying250
 a53 := Tryz.isAgg250
 z53 := Tryz.sizeOf250
 v53 := Tryz.zeroValue250
 t70 := Tryz.underlying219
 a70 := Tryz.isAgg219
 z70 := Tryz.sizeOf219
 v70 := Tryz.zeroValue219
 t72 := Tryz.underlying221
 a72 := Tryz.isAgg221
 z72 := Tryz.sizeOf221
 v72 := Tryz.zeroValue221
 t75 := Tryz.underlying224
 a75 := Tryz.isAgg224
 z75 := Tryz.sizeOf224
 v75 := Tryz.zeroValue224
 t76 := Tryz.underlying225
 a76 := Tryz.isAgg225
 z76 := Tryz.sizeOf225
 v76 := Tryz.zeroValue225
 t109 := Tryz.underlying345
 a109 := Tryz.isAgg345
 z109 := Tryz.sizeOf345
 v109 := Tryz.zeroValue345
 t127 := Tryz.underlying281
 a127 := Tryz.isAgg281
 z127 := Tryz.sizeOf281
 v127 := Tryz.zeroValue281
 t146 := Tryz.underlying300
 a146 := Tryz.isAgg300
 z146 := Tryz.sizeOf300
 v146 := Tryz.zeroValue300
 t148 := Tryz.underlying253
 a148 := Tryz.isAgg253
 z148 := Tryz.sizeOf253
 v148 := Tryz.zeroValue253
 t164 := Tryz.underlying303
 a164 := Tryz.isAgg303
 z164 := Tryz.sizeOf303
 v164 := Tryz.zeroValue303 }
theorem Tryz.Builder_Extra_105 : Builder.Extra Tryz.prog Tryz.lays105_ren := {
 sizeBuilder := by kernel_rfl
 liesBuilder := by kernel_rfl
 t5 := Tryz.underlying5
 a5 := Tryz.isAgg5
 z5 := Tryz.sizeOf5
 v5 := Tryz.zeroValue5
 infoByte := by kernel_rfl
 cellsByte := by kernel_rfl
 sizeByte := by kernel_rfl
 neB5 := by decide }
open Go.RowKit Go.Lib in
theorem Tryz.strings_Repeat (s : ByteArray) (c : Nat) (w : World) (hc : c ≤ 9223372036854775807) (hlen : s.size * c ≤ 140737488355328) :
  Calls Tryz.prog 379 #[.string s, .int .i64 c] w fun e w' => e = .returned (.string ⟨(Lib.repeatL s.data.toList c).toArray⟩) ∧ Below w.heap.size w w' := Any.strings_Repeat Tryz.lays105 Tryz.Builder_Extra_105 s c w hc hlen
end Go.Proofs
namespace Go.Proofs.YtdejnaokkdndeaaGreatDoor
open Go.RowKit Go.V
open Go.Eng (inR byteAt u8 aU)
variable {g : Gv}
theorem aFE (k : Nat) : u8 (k : Int) = UInt8.ofNat k := by
 have e : ((k : Int) % 256).toNat = k % 256 := by omega
 rw [u8, e]
 apply UInt8.toNat_inj.1
 simp
end Go.Proofs.YtdejnaokkdndeaaGreatDoor
namespace Go.Proofs.YtdejnaokkdndeaaGreatDoor
open Go.RowKit Go.V
open Go.Eng (inR byteAt u8 aU)
variable {g : Gv}
theorem S_data (l : List UInt8) : (S l).data.toList = l := by simp [S]
theorem iM (a b : List UInt8) : bytesD (a ++ b) = bytesD a ++ bytesD b := by simp [bytesD]
end Go.Proofs.YtdejnaokkdndeaaGreatDoor
namespace Go.Proofs.YtdejnaokkdndeaaGreatDoor
open Go.RowKit Go.V
open Go.Eng (inR byteAt u8 aU)
variable {g : Gv}
theorem aAT (n : Int) :
  SpG g 288 [.c (cI n)] [] (.c (cB (decide ((0 : Int) ≤ n) && decide (n ≤ 3652058)))) [] := by
 refine aL 9 Tryz.func288 (by kernel_rfl) fun fr hG => ?_
 refine zR hG [] [] (.c (cB ((decide ((n : Int) ≥ 0)) && (decide ((n : Int) ≤ 3652058))))) [] aA ?_ ?_
 refine fF ?_
 rw [Bool.eq_iff_iff] <;> (try simp) <;> (try omega)
 rfl
theorem aHI (y : Int) (h : 0 ≤ y) :
  SpG g 378 [.c (cI y)] [] (.c (cB (lW y))) [] := by
 refine aL 16 Tryz.func378 (by kernel_rfl) fun fr hG => ?_
 refine zR hG [] [] (.c (cB (((decide ((Int.tmod y 4 : Int) = 0)) && (!decide ((Int.tmod y 100 : Int) = 0))) || (decide ((Int.tmod y 400 : Int) = 0))))) [] (aB (by intros; first | omega | decide | (simp only [zq0] at *; omega) : 4 ≠ (0 : Int)) (aB (by intros; first | omega | decide | (simp only [zq0] at *; omega) : (decide ((Int.tmod y 4 : Int) = 0)) = true → 100 ≠ (0 : Int)) (aD (by intros; first | omega | decide | (simp only [zq0] at *; omega) : ((decide ((Int.tmod y 4 : Int) = 0)) && (!decide ((Int.tmod y 100 : Int) = 0))) = false → 400 ≠ (0 : Int))))) ?_ ?_
 refine fF ?_
 simp only [lW, Int.tmod_eq_emod_of_nonneg h]; rw [Bool.eq_iff_iff] <;> (try simp) <;> (try omega)
 rfl
theorem kY (y : Int) (h1 : 1 ≤ y) (h2 : y ≤ 10000) :
  SpG g 341 [.c (cI y)] [] (.c (cI (dby y))) [] := by
 refine aL 17 Tryz.func341 (by kernel_rfl) fun fr hG => ?_
 refine zR hG [] [] (.c (cI ((((365 * (y - 1)) + (Int.tdiv (y - 1) 4)) - (Int.tdiv (y - 1) 100)) + (Int.tdiv (y - 1) 400)))) [] (aB (by intros; first | omega | decide | (simp only [inR, Int.tdiv_eq_ediv_of_nonneg (show 0 ≤ y - 1 by omega)]; omega) : inR (y - 1)) (aB (by intros; first | omega | decide | (simp only [inR, Int.tdiv_eq_ediv_of_nonneg (show 0 ≤ y - 1 by omega)]; omega) : inR (365 * (y - 1))) (aB (by intros; first | omega | decide | (simp only [inR, Int.tdiv_eq_ediv_of_nonneg (show 0 ≤ y - 1 by omega)]; omega) : 4 ≠ (0 : Int) ∧ inR (Int.tdiv (y - 1) 4)) (aB (by intros; first | omega | decide | (simp only [inR, Int.tdiv_eq_ediv_of_nonneg (show 0 ≤ y - 1 by omega)]; omega) : inR ((365 * (y - 1)) + (Int.tdiv (y - 1) 4))) (aB (by intros; first | omega | decide | (simp only [inR, Int.tdiv_eq_ediv_of_nonneg (show 0 ≤ y - 1 by omega)]; omega) : 100 ≠ (0 : Int) ∧ inR (Int.tdiv (y - 1) 100)) (aB (by intros; first | omega | decide | (simp only [inR, Int.tdiv_eq_ediv_of_nonneg (show 0 ≤ y - 1 by omega)]; omega) : inR (((365 * (y - 1)) + (Int.tdiv (y - 1) 4)) - (Int.tdiv (y - 1) 100))) (aB (by intros; first | omega | decide | (simp only [inR, Int.tdiv_eq_ediv_of_nonneg (show 0 ≤ y - 1 by omega)]; omega) : 400 ≠ (0 : Int) ∧ inR (Int.tdiv (y - 1) 400)) (aD (by intros; first | omega | decide | (simp only [inR, Int.tdiv_eq_ediv_of_nonneg (show 0 ≤ y - 1 by omega)]; omega) : inR ((((365 * (y - 1)) + (Int.tdiv (y - 1) 4)) - (Int.tdiv (y - 1) 100)) + (Int.tdiv (y - 1) 400))))))))))) ?_ ?_
 refine yL ?_
 simp only [Int.tdiv_eq_ediv_of_nonneg (show 0 ≤ y - 1 by omega)]; rfl
 rfl
theorem l6 (y m : Int) (h0 : 0 ≤ y) (h1 : 1 ≤ m) (h2 : m ≤ 12) :
  SpG g 342 [.c (cI y), .c (cI m)] [] (.c (cI (fY y m))) [] := by
 refine aL 15 Tryz.func342 (by kernel_rfl) fun fr hG => ?_
 refine zC hG [(1, 4, kB (lW y))] [1, 0, 1] ((decide ((m : Int) = 2)) && (lW y)) (⟨[zI 1 m, zI 4 0], []⟩) (aD (fun (hg1 : (decide ((m : Int) = 2)) = true) => (aHI y (by omega) : SpG g _ _ _ _ _))) (fun hc1 => ?_) (fun hc1 => ?_)
 (try simp only [blS] at hc1)
 refine zR hG [] [] (.c (cI 29)) [] aA ?_ ?_
 refine yL ?_
 simp [fY, lpI, hc1]
 rfl
 (try simp only [blS] at hc1)
 refine zR hG [(3, 3, .elem [.i (mlen.getD (0 + (m - 1 : Int).toNat * 1) 0)])] [] (.c (cI (mlen.getD (0 + (m - 1 : Int).toNat * 1) 0))) [] (aB (by intros; first | omega | (unfold inR; omega) | exact ⟨by omega, by show _ < ((12 : Nat) : Int); omega⟩ : inR (m - 1)) (aB (by intros; first | omega | (unfold inR; omega) | exact ⟨by omega, by show _ < ((12 : Nat) : Int); omega⟩ : (0 : Int) ≤ (m - 1) ∧ (m - 1) < ((12 : Nat) : Int)) (aD (by intros; exact dV 0 (by show _ < 12; omega) : (mlen.map (Value.int .i64) : List Value)[0 + (m - 1 : Int).toNat * 1]? = some (.int .i64 (mlen.getD (0 + (m - 1 : Int).toNat * 1) 0)))))) ?_ ?_
 refine yL ?_
 have e : 0 + (m - 1 : Int).toNat * 1 = (m - 1).toNat := by omega
 rw [e]; exact aG6 y m h1 h2 (by intro h; simp [h] at hc1)
 rfl
abbrev y9 (a0 : Int) (a1 : Int) (a2 : Int) : SV := .tup [(false, [cI a0]), (false, [cI a1]), (false, [cI a2]), (false, [cB true])]
theorem aIS (n : Int) (h0 : 0 ≤ n) (h1 : n ≤ 3652058) :
  SpG g 282 [.c (cI n)] [] (y9 ((civ n).1) ((civ n).2.1) ((civ n).2.2)) [] := by
 refine aL 43 Tryz.func282 (by kernel_rfl) fun fr hG => ?_
 refine zC hG [(1, 1, kB (decide ((0 : Int) ≤ n) && decide (n ≤ (3652058 : Int))))] [1, 0, 1] (!(decide ((0 : Int) ≤ n) && decide (n ≤ (3652058 : Int)))) (⟨[zI 0 n, zI 2 0, zI 3 0, zI 4 0, zB 5 false], []⟩) (aD (aAT n : SpG g _ _ _ _ _)) (fun hc1 => ?_) (fun hc1 => ?_)
 (try simp only [blS] at hc1)
 exfalso; omega
 (try simp only [blS] at hc1)
 refine zL hG [] [0, 0, 1, 1, 1] (fun (zz : Int) => match zz with | y => ((9999 - y).toNat, ⟨[zI 0 n, zI 2 y, zI 3 0, zI 4 0, zB 5 false], []⟩, 1 ≤ y ∧ y ≤ 9999 ∧ dby y ≤ n)) (Int.tdiv n 366 + 1) (aB (by intros; first | omega | decide | (simp only [zq0] at *; first | omega | (rw [Int.tdiv_eq_ediv_of_nonneg h0] at *; omega)) : 366 ≠ (0 : Int) ∧ inR (Int.tdiv n 366)) (aD (by intros; first | omega | decide | (simp only [zq0] at *; first | omega | (rw [Int.tdiv_eq_ediv_of_nonneg h0] at *; omega)) : inR ((Int.tdiv n 366) + 1)))) ?_ ?_
 rw [Int.tdiv_eq_ediv_of_nonneg h0]; exact ⟨by omega, by omega, by unfold dby; omega⟩
 rintro y ⟨hy1, hy2, hy3⟩
 have hdb := aAY y hy1 (by omega)
 have hdb2 := aAY (y + 1) (by omega) (by omega)
 refine zc hG [(4, 5, kI (dby (y + 1)))] [1, 0] ((decide ((y : Int) < 9999)) && (decide ((dby (y + 1) : Int) ≤ n))) (aB (by intros; first | omega | decide | (simp only [zq0] at *; first | omega | (rw [Int.tdiv_eq_ediv_of_nonneg h0] at *; omega)) : (decide ((y : Int) < 9999)) = true → inR (y + 1)) (aD (fun (hg1 : (decide ((y : Int) < 9999)) = true) => (kY (y + 1) (by omega) (by omega) : SpG g _ _ _ _ _)))) (fun hc3 => ?_) (fun hc3 => ?_)
 (try simp only [blS] at hc3)
 refine zD hG [] (y + 1) (aD (by intros; first | omega | decide | (simp only [zq0] at *; first | omega | (rw [Int.tdiv_eq_ediv_of_nonneg h0] at *; omega)) : inR (y + 1))) ?_ ?_
 (try dsimp only); omega
 exact ⟨by omega, by omega, hc3.2⟩
 (try simp only [blS] at hc3)
 refine zE hG [] (.exit 0) (⟨[zI 0 n, zI 2 y, zI 3 0, zI 4 0, zB 5 false], []⟩) aA rfl ?_
 refine zL hG [(6, 2, kI (dby y))] [0, 0, 1, 1, 1, 1, 1] (fun (zz : Int × Int) => match zz with | (m, d) => ((12 - m).toNat, ⟨[zI 2 y, zI 3 m, zI 4 d, zB 5 false], []⟩, 1 ≤ m ∧ m ≤ 12 ∧ 1 ≤ d ∧ d = n - dby y + 1 - cum y m)) (1, n - dby y + 1) (aB (kY y (by omega) (by omega) : SpG g _ _ _ _ _) (aB (by intros; first | omega | decide | (simp only [zq0] at *; first | omega | (rw [Int.tdiv_eq_ediv_of_nonneg h0] at *; omega)) : inR (n - (dby y))) (aD (by intros; first | omega | decide | (simp only [zq0] at *; first | omega | (rw [Int.tdiv_eq_ediv_of_nonneg h0] at *; omega)) : inR ((n - (dby y)) + 1))))) ?_ ?_
 exact ⟨by omega, by omega, by omega, by rw [aCI]; omega⟩
 rintro ⟨m, d⟩ ⟨hm1, hm2, hd1, hd2⟩
 have hcb := aAZ y m hm1 (by omega)
 have hdl := lZ y m
 have hcs := fK y m hm1
 have hup := civ_up hy1 hy2 hy3 h1 hc3 hm1 hm2 hd2
 refine zp hG [(7, 3, kI (fY y m))] [1, 0] ((d : Int) > (fY y m)) (aD (l6 y m (by omega) (by omega) (by omega) : SpG g _ _ _ _ _)) (fun hc5 => ?_) (fun hc5 => ?_)
 skip
 refine zD hG [(8, 3, kI (fY y m))] (m + 1, d - fY y m) (aB (l6 y m (by omega) (by omega) (by omega) : SpG g _ _ _ _ _) (aB (by intros; first | omega | decide | (simp only [zq0] at *; first | omega | (rw [Int.tdiv_eq_ediv_of_nonneg h0] at *; omega)) : inR (d - (fY y m))) (aD (by intros; first | omega | decide | (simp only [zq0] at *; first | omega | (rw [Int.tdiv_eq_ediv_of_nonneg h0] at *; omega)) : inR (m + 1))))) ?_ ?_
 (try dsimp only); omega
 exact ⟨by omega, by omega, by omega, by omega⟩
 skip
 refine zE hG [] (.exit 2) (⟨[zI 2 y, zI 3 m, zI 4 d, zB 5 false], []⟩) aA rfl ?_
 refine zR hG [] [] (y9 y m d) [] aA ?_ ?_
 have hv : vld y m d := ⟨hy1, hy2, hm1, hm2, hd1, by omega⟩
 rw [aIT hv (by unfold iU; omega)]
 rfl
end Go.Proofs.YtdejnaokkdndeaaGreatDoor
namespace Go.Proofs.YtdejnaokkdndeaaGreatDoor
open Go.RowKit Go.Sort Go.Lib
end Go.Proofs.YtdejnaokkdndeaaGreatDoor
namespace Go.Proofs.YtdejnaokkdndeaaGreatDoor
open Go.RowKit Go.V
open Go.Eng (inR byteAt u8 aU)
open Go.Sort (grow)
variable {g : Gv}
theorem below_grow (w : World) (q : Nat) (os : Array Obj) : Below w.heap.size w (grow (w.drewN q) os) :=
 ⟨rfl, rfl, rfl, by simp [grow, World.drewN], fun i hi => by
  show ((w.drewN q).heap ++ os)[i]? = _
  rw [Array.getElem?_append_left (by show i < w.heap.size; omega)]
  rfl⟩
theorem tab_of {w : World} (hG : ∀ b cs, (b, cs) ∈ Gl g → ∃ ty fz, w.heap[b]? = some (.cells cs.toArray ty fz)) : Lib.TabIs Tryz.prog w "internal/strconv.uint64pow10" .u64 Lib.pow10Tab := by
 obtain ⟨ty, fz, h⟩ := hG 10 (powL.map (Value.int .u64)) (by simp [Gl])
 have hn : Tryz.prog.globalNamed "internal/strconv.uint64pow10" = some 10 := by kernel_rfl
 unfold Lib.TabIs World.var?
 rw [hn]
 simp only [Option.bind_some, h]
 rfl
theorem aG1 (u : Nat) : Lib.decDigits u = eI u := by
 induction u using Nat.strongRecOn with
 | ind u ih =>
  rw [Lib.decDigits]
  by_cases h : u < 10
  rw [dif_pos h, eI]
  by_cases h0 : u = 0
  subst h0; rfl
  rw [if_neg h0, lQ h0, show u / 10 = 0 by omega, jX, show u % 10 = u by omega, ← aFE]; rfl
  rw [dif_neg h, ih (u / 10) (by omega), eI, eI, if_neg (by omega), if_neg (by omega), lQ (n := u) (by omega), ← aFE]; rfl
theorem aB3 (n : Int) (h0 : 0 ≤ n) (h1 : n ≤ 9223372036854775807) : SpG g 264 [.c (cI n)] [] (.c (cS (S (eI n.toNat)))) [] := by
 refine hY (args := [.int .i64 n]) rfl rfl rfl fun w hG => ?_
 have h := Tryz.strconv_Itoa n (by omega) h1 w (tab_of hG)
 refine h.mono ?_
 rintro e w' ⟨rfl, k, os, rfl⟩
 refine ⟨?_, below_grow _ _ _⟩
 obtain ⟨u, rfl⟩ : ∃ u : Nat, n = u := ⟨n.toNat, by omega⟩
 rw [Lib.itoa_nonneg, aG1, Int.toNat_natCast]; rfl
theorem aDJ (c : Int) (h0 : 0 ≤ c) (h1 : c ≤ 1000000) : SpG g 379 [.c (cS (S [48])), .c (cI c)] [] (.c (cS (S (List.replicate c.toNat 48)))) [] := by
 refine hY (args := [.string (S [48]), .int .i64 c]) rfl rfl rfl fun w _ => ?_
 obtain ⟨u, rfl⟩ : ∃ u : Nat, c = u := ⟨c.toNat, by omega⟩
 have h := Tryz.strings_Repeat (S [48]) u w (by omega) (by rw [aJ]; simp; omega)
 have e : Lib.repeatL (S [48]).data.toList u = List.replicate u 48 := by
  have := Lib.repeatL_replicate 48 1 u
  rw [Nat.mul_one] at this
  rw [S_data]; exact this
 rw [e] at h
 exact h
def fW (n size : Int) : List UInt8 := List.replicate (size.toNat - (eI n.toNat).length) 48 ++ eI n.toNat
end Go.Proofs.YtdejnaokkdndeaaGreatDoor
namespace Go.Proofs.YtdejnaokkdndeaaGreatDoor
open Go.RowKit Go.V
open Go.Eng (inR byteAt u8 aU)
variable {g : Gv}
theorem xQ (n s : Int) (h : cD n s = true) :
  SpG g 273 [.agg [cI n, cI s]] [] (.agg [cI n, cI s]) [] := by
 refine aL 7 Tryz.func273 (by kernel_rfl) fun fr hG => ?_
 refine zC hG [(1, 1, kB (cD n s))] [1, 0, 1] (cD n s) (⟨[zX 1 100 0, zX 2 101 0], [(100, .box 38 [cI n, cI s]), (101, .box 38 [cI 0, cI 0])]⟩) (aD (n5 n s : SpG g _ _ _ _ _)) (fun hc1 => ?_) (fun hc1 => ?_)
 (try simp only [blS] at hc1)
 exact zr hG [] [] aA
 (try simp only [blS] at hc1)
 exact absurd (h.symm.trans hc1) (by decide)
end Go.Proofs.YtdejnaokkdndeaaGreatDoor
namespace Go.Proofs.YtdejnaokkdndeaaGreatDoor
open Go.RowKit Go.V
open Go.Eng (inR byteAt u8 aU)
theorem kP {l : List UInt8} (h : l.all aR = true) (hl : l.length ≤ 200) : dW l = true := by
 have e : bs (S l) = l := by simp [bs, S]
 simp only [tG, dW, iG, Bool.and_eq_true, e]
 exact ⟨h, by omega⟩
theorem aDW (l : List Int) (k : Int) : aR (u8 (32 + nxV l k 95)) = true := by
 have := c8 l k (n := 95) (by decide)
 simp only [aR, u8, Bool.and_eq_true, decide_eq_true_eq, UInt8.toNat_ofNat']
 omega
theorem aIW (l : List Int) : ∀ (n : Nat) (k : Int), (chM l n k).1.all aR = true
 | 0, k => rfl
 | n + 1, k => by simp only [chM, List.all_cons, aDW, aIW l n, Bool.and_true]
theorem aC2 : ∀ i, i < 15 → (wordsL.getD i []).all aR = true ∧ (wordsL.getD i []).length ≤ 200 := by decide
theorem oU (l : List Int) (k : Int) : dW (txM l k).1 = true := by
 unfold txM; split
 have := c8 l k (n := 18) (by decide)
 have h := aC2 (nxV l k 18).toNat (by omega)
 exact kP h.1 h.2
 exact kP (aIW l _ _) (by rw [aIV]; have := txN_bd l k; omega)
theorem aEG (neg : Bool) (m : Nat) (s : Int) : cD (fR neg m s) (fQ m s) = true := by
 unfold fR fQ
 cases hb : dP m s with
 | false => simp [cD]
 | true =>
  have h := hb
  simp only [dP, decide_eq_true_eq] at h
  have ho := xH s.toNat m
  generalize (eJ m s.toNat).1 = a at *
  generalize (eJ m s.toNat).2 = b at *
  have ht : ((a : Int).tmod 10 = ((a % 10 : Nat) : Int)) := by rw [Int.tmod_eq_emod_of_nonneg (by omega)]; omega
  have hn : ((-(a : Int)).tmod 10 = -((a % 10 : Nat) : Int)) := by rw [Int.neg_tmod, ht]
  cases neg
  simp only [if_true, if_false, Bool.false_eq_true, cD, ht, Bool.and_eq_true, Bool.or_eq_true, decide_eq_true_eq]; omega
  simp only [if_true, cD, hn, Bool.and_eq_true, Bool.or_eq_true, decide_eq_true_eq]; omega
theorem aIN (l : List Int) (k : Int) : cD (dcM l k).1 (dcM l k).2.1 = true := aEG _ _ _
structure Cl.good (c : Cl) : Prop where
 kind : ¬ c.kind = 5
 right : bE false c.toV = true
 len : c.s.length ≤ 200
theorem aF2 (n : Int) (h0 : 0 ≤ n) (h1 : n ≤ 3652058) : bE false ⟨3, [], 0, 0, n, [], []⟩ = true := by simp [bE, cK, h0, h1]
theorem right4 (n : Int) (h0 : 0 ≤ n) (h1 : n < 2) : bE false ⟨4, [], 0, 0, n, [], []⟩ = true := by
 have : n = 0 ∨ n = 1 := by omega
 rcases this with rfl | rfl <;> decide
theorem right0 (n : Int) (h0 : 0 ≤ n) (h1 : n ≤ 99) : bE false ⟨0, [], 0, 0, n, [], []⟩ = true := by simp [bE, cK, h0, h1]
theorem cv_good (l : List Int) (k kind : Int) : (cvM l k kind).1.good := by
 unfold cvM
 split
 exact ⟨by simp, by simp [bE, Cl.toV, cK, oU], w9 (oU l k)⟩
 split
 exact ⟨by simp, by simp [bE, Cl.toV, cK, aIN], by simp⟩
 split
 have h1 := c8 l k (n := 1000) (by decide)
 have h2 := c8 l (nxK l (nxK l k 1000) 8) (n := 3652059) (by decide)
 split
 exact ⟨by simp, aF2 _ (by dsimp only; omega) (by dsimp only; omega), by simp⟩
 exact ⟨by simp, aF2 _ (by dsimp only; omega) (by dsimp only; omega), by simp⟩
 split
 have h1 := c8 l k (n := 2) (by decide)
 exact ⟨by simp, right4 _ (by dsimp only; omega) (by dsimp only; omega), by simp⟩
 have h1 := c8 l k (n := 100) (by decide)
 exact ⟨by simp, right0 _ (by dsimp only; omega) (by dsimp only; omega), by simp⟩
end Go.Proofs.YtdejnaokkdndeaaGreatDoor
namespace Go.Proofs.YtdejnaokkdndeaaGreatDoor
open Go.RowKit Go.V
open Go.Eng (inR byteAt u8 aU)
def jI (l : List UInt8) : Nat := l.foldl (fun a c => 10 * a + (c.toNat - 48)) 0
def cL (c : UInt8) : Bool := decide (48 ≤ c.toNat) && decide (c.toNat ≤ 57)
theorem mX (l : List UInt8) (c : UInt8) : jI (l ++ [c]) = 10 * jI l + (c.toNat - 48) := by simp [jI]
theorem aFF {k : Nat} (h : k < 10) : (u8 (48 + (k : Int))).toNat = 48 + k := by
 have : ((48 + (k : Int)) % 256).toNat = 48 + k := by omega
 rw [u8, this, UInt8.toNat_ofNat']; omega
theorem aG2 : ∀ n : Nat, jI (rF n) = n ∧ (rF n).all cL = true := by
 intro n
 induction n using Nat.strongRecOn with
 | ind n ih =>
  by_cases h : n = 0
  subst h; rw [jX]; exact ⟨rfl, rfl⟩
  obtain ⟨h1, h2⟩ := ih (n / 10) (by omega)
  have hd := aFF (k := n % 10) (by omega)
  rw [lQ h, mX, h1, hd]
  refine ⟨by omega, ?_⟩
  rw [List.all_append, h2]
  simp only [List.all_cons, List.all_nil, cL, hd, Bool.and_true, Bool.true_and, Bool.and_eq_true, decide_eq_true_eq]; omega
theorem aG0 (n : Nat) : jI (eI n) = n ∧ (eI n).all cL = true := by
 unfold eI
 split
 rename_i h; subst h; exact ⟨rfl, rfl⟩
 exact aG2 n
theorem qL (l : List UInt8) : ∀ k : Nat, jI (List.replicate k 48 ++ l) = jI l
 | 0 => rfl
 | k + 1 => by
  have ih := qL l k
  rw [List.replicate_succ, List.cons_append]
  unfold jI at ih ⊢
  rw [List.foldl_cons]
  exact ih
end Go.Proofs.YtdejnaokkdndeaaGreatDoor
namespace Go.Proofs.YtdejnaokkdndeaaGreatDoor
open Go.RowKit Go.V
open Go.Eng (inR byteAt u8 aU)
variable {g : Gv}
theorem aCX (l : List UInt8) : (S l).data.toList = l := by simp [S]
theorem aES (w : World) (n : Nat) : Below w.heap.size w (w.drewN n) := ⟨rfl, rfl, rfl, Nat.le_refl _, fun _ _ => rfl⟩
theorem vB (s p : List UInt8) : SpG g 246 [.c (cS (S s)), .c (cS (S p))] [] (.tup [(false, [cS (S (Lib.trimPrefix s p))]), (false, [cB (Lib.hasPrefix s p)])]) [] := by
 refine lO (args := [.string (S s), .string (S p)]) rfl rfl rfl fun w => ?_
 have := Tryz.strings_CutPrefix (S s) (S p) w
 rw [aCX, aCX] at this
 exact this.mono fun _ _ ⟨a, b⟩ => ⟨a, b.symm⟩
theorem cut_ok' (s p : List UInt8) (hs : s.length < 4294967281) : SpG g 101 [.c (cS (S s)), .c (cS (S p))] [] (.tup [(false, [cS (S (Lib.cut s p).1)]), (false, [cS (S (Lib.cut s p).2.1)]), (false, [.d (.b (Lib.cut s p).2.2)])]) [] := by
 refine hY (args := [.string (S s), .string (S p)]) rfl rfl rfl fun w hG => ?_
 obtain ⟨ty, fz, h0⟩ := hG 1 [.int .i64 g.maxLen] (by simp [Gl])
 have := Tryz.strings_Cut (S s) (S p) g.maxLen w (by rw [aJ]; omega) (by rw [Lib.cell_of_heap h0]; rfl)
 rw [aCX, aCX] at this
 exact this.mono fun _ _ ⟨x, n, y⟩ => ⟨x, by rw [y]; exact aES _ _⟩
theorem aH0 {n s : Int} (h : cD n s = true) : fR (decide (n < 0)) n.natAbs s = n ∧ fQ n.natAbs s = s ∧ dP n.natAbs s = true := by
 obtain ⟨h0, h1, h2, h3, h4⟩ := iJ h
 have ht : s = 0 ∨ ¬ n % 10 = 0 := h4.imp id fun hh hm => hh (by rw [← Int.dvd_iff_tmod_eq_zero]; exact Int.dvd_of_emod_eq_zero hm)
 have hL : eJ n.natAbs s.toNat = (n.natAbs, s.toNat) := dK h0 (by omega)
 have hB : dP n.natAbs s = true := by unfold dP; rw [hL]; simp; omega
 refine ⟨?_, ?_, hB⟩
 rw [fR, hB, if_pos rfl, hL]
 by_cases hn : n < 0
 simp only [hn, decide_true, if_true]; omega
 simp only [hn, decide_false, Bool.false_eq_true, if_false]; omega
 rw [fQ, hB, if_pos rfl, hL]; simp only; omega
theorem aEQ {l : List UInt8} {k : Nat} (h : k < l.length) : jI (l.take (k + 1)) = 10 * jI (l.take k) + ((l.getD k 0).toNat - 48) := by
 have e : l.take (k + 1) = l.take k ++ [l.getD k 0] := by
  rw [List.take_add_one, List.getD_eq_getElem?_getD, List.getElem?_eq_getElem h]; rfl
 rw [e, mX]
theorem dval_lt {l : List UInt8} (h : l.all cL = true) : jI l < 10 ^ l.length := by
 induction l using tR with
 | h0 => simp [jI]
 | h1 l x ih =>
  rw [List.all_append, Bool.and_eq_true] at h
  have h1 := ih h.1
  have h2 := h.2
  simp only [List.all_cons, List.all_nil, cL, Bool.and_true, Bool.and_eq_true, decide_eq_true_eq] at h2
  rw [mX, List.length_append, Nat.pow_add]; simp; omega
theorem aJB {l : List UInt8} {k : Nat} (h : k < l.length) (h1 : (l.take k).all cL = true) (h2 : cL (l.getD k 0) = true) : (l.take (k + 1)).all cL = true := by
 have e : l.take (k + 1) = l.take k ++ [l.getD k 0] := by
  rw [List.take_add_one, List.getD_eq_getElem?_getD, List.getElem?_eq_getElem h]; rfl
 rw [e, List.all_append, h1]; simp only [List.all_cons, List.all_nil, h2]; rfl
theorem aHQ {l : List UInt8} {k : Nat} (h1 : ¬ byteAt (S l) (k : Int) < 48) (h2 : ¬ byteAt (S l) (k : Int) > 57) : cL (l.getD k 0) = true ∧ IntKind.wrap .i64 (IntKind.wrap .u8 (byteAt (S l) (k : Int) - 48)) = (((l.getD k 0).toNat - 48 : Nat) : Int) := by
 have e := dF l (k : Int)
 rw [Int.toNat_natCast] at e
 rw [e] at h1 h2 ⊢
 have hw : IntKind.wrap .u8 (((l.getD k 0).toNat : Int) - 48) = ((l.getD k 0).toNat : Int) - 48 := by
  have := Eng.wrap_u8 (((l.getD k 0).toNat : Int) - 48)
  rw [this, iW]; omega
 rw [hw, wrap64 (by unfold inR; omega)]
 refine ⟨?_, by omega⟩
 simp only [cL, Bool.and_eq_true, decide_eq_true_eq]; omega
theorem tdiv10 (a : Int) : Int.tmod a 10 = 0 ↔ a.natAbs % 10 = 0 := by
 rw [← Int.dvd_iff_tmod_eq_zero]
 constructor
 intro h; omega
 intro h; omega
theorem aAV (n s : Int) (h0 : -72000000000000000000 ≤ n) (h0b : inR n) (h2 : 0 ≤ s) (h3 : s ≤ 18) :
  SpG g 247 [.c (cI n), .c (cI s)] [] (y3 (fR (decide (n < 0)) n.natAbs s) (fQ n.natAbs s) (dP n.natAbs s)) [] := by
 unfold inR at h0b
 refine aL 35 Tryz.func247 (by kernel_rfl) fun fr hG => ?_
 refine zC hG [] [1, 0, 1] ((decide ((s : Int) < 0)) || (decide ((s : Int) > 18))) (⟨[zI 0 n, zI 1 s, zX 4 100 0, zB 5 false], [(100, .box 38 [cI 0, cI 0])]⟩) aA (fun hc1 => ?_) (fun hc1 => ?_)
 (try simp only [blS] at hc1)
 exfalso; omega
 (try simp only [blS] at hc1)
 refine zL hG [] [0, 0, 1, 1] (fun (zz : Int × Int) => match zz with | (a, t) => (t.toNat, ⟨[zI 0 a, zI 1 t, zX 4 100 0, zB 5 false], [(100, .box 38 [cI 0, cI 0])]⟩, a.natAbs ≤ n.natAbs ∧ (a < 0 ↔ n < 0 ∧ a ≠ 0) ∧ 0 ≤ t ∧ t ≤ s ∧ eJ a.natAbs t.toNat = eJ n.natAbs s.toNat ∧ (n < 0 → a ≤ 0))) (n, s) aA ?_ ?_
 exact ⟨Nat.le_refl _, by omega, h2, Int.le_refl _, rfl, by omega⟩
 rintro ⟨a, t⟩ ⟨ha, hsg, ht0, ht1, hf, hng⟩
 have htm := tdiv10 a
 have hta : (Int.tdiv a 10).natAbs = a.natAbs / 10 := Int.natAbs_tdiv a 10
 refine zc hG [] [1, 0] ((decide ((t : Int) > 0)) && (decide ((Int.tmod a 10 : Int) = 0))) (aD (by intros; first | omega | decide | (unfold inR; omega) : (decide ((t : Int) > 0)) = true → 10 ≠ (0 : Int))) (fun hc3 => ?_) (fun hc3 => ?_)
 (try simp only [blS] at hc3)
 refine zD hG [] (Int.tdiv a 10, t - 1) (aB (by intros; first | omega | decide | (unfold inR; omega) : 10 ≠ (0 : Int) ∧ inR (Int.tdiv a 10)) (aD (by intros; first | omega | decide | (unfold inR; omega) : inR (t - 1)))) ?_ ?_
 (try dsimp only); omega
 have hz := htm.1 hc3.2
 have hsn : (Int.tdiv a 10 < 0 ↔ a < 0 ∧ Int.tdiv a 10 ≠ 0) ∧ (a ≤ 0 → Int.tdiv a 10 ≤ 0) := by
  rcases Int.lt_or_le a 0 with h | h
  have := Int.tdiv_nonneg (a := -a) (b := 10) (by omega) (by decide)
  rw [Int.neg_tdiv] at this; omega
  have := Int.tdiv_nonneg (a := a) (b := 10) h (by decide)
  rw [Int.tdiv_eq_ediv_of_nonneg h] at *; omega
 refine ⟨by omega, by omega, by omega, by omega, ?_, by omega⟩
 rw [hta, ← hf, sM (by omega) hz]
 (try simp only [blS] at hc3)
 refine zE hG [] (.exit 0) (⟨[zI 0 a, zI 1 t, zX 4 100 0, zB 5 false], [(100, .box 38 [cI 0, cI 0])]⟩) aA rfl ?_
 refine zc hG [(6, 4, kB (decide ((-1000000000000000 : Int) ≤ a) && decide (a ≤ (1000000000000000 : Int))))] [1, 0, 1, 1, 1] ((decide ((t : Int) > 6)) || (!(decide ((-1000000000000000 : Int) ≤ a) && decide (a ≤ (1000000000000000 : Int))))) (aD (fun (hg1 : (decide ((t : Int) > 6)) = false) => (eV a : SpG g _ _ _ _ _))) (fun hc4 => ?_) (fun hc4 => ?_)
 (try simp only [blS] at hc4)
 refine zR hG [] [] (y4) [] aA ?_ ?_
 have hL : eJ a.natAbs t.toNat = (a.natAbs, t.toNat) := dK ht0 (by omega)
 rw [hf] at hL
 have hb : dP n.natAbs s = false := by unfold dP; rw [hL]; simp; omega
 rw [fR, fQ, hb]; rfl
 rfl
 (try simp only [blS] at hc4)
 refine zR hG [] [] (y5 a t) [] aA ?_ ?_
 have hL : eJ a.natAbs t.toNat = (a.natAbs, t.toNat) := dK ht0 (by omega)
 rw [hf] at hL
 have hb : dP n.natAbs s = true := by unfold dP; rw [hL]; simp; omega
 have e1 : fR (decide (n < 0)) n.natAbs s = a := by
  rw [fR, hb, if_pos rfl, hL]
  by_cases hn : n < 0
  simp only [hn, decide_true, if_true]; omega
  simp only [hn, decide_false, Bool.false_eq_true, if_false]; omega
 have e2 : fQ n.natAbs s = t := by rw [fQ, hb, if_pos rfl, hL]; simp only; omega
 rw [e1, e2, hb]
 rfl
end Go.Proofs.YtdejnaokkdndeaaGreatDoor
namespace Go.Proofs.YtdejnaokkdndeaaGreatDoor
open Go.RowKit Go.V
variable {g : Gv}
theorem ba_data (s : ByteArray) : (⟨s.data.toList.toArray⟩ : ByteArray) = s := by cases s; simp
theorem aJI (s : ByteArray) : S s.data.toList = s := ba_data s
theorem aFN {f : FuncId} {ins : List SV} {args : List Value} {xs : List Value} {e : TypeId} (hi : qK ins = some args) (h1 : ∀ x ∈ xs, x.oneCell' = true) (hn : xs.length ≤ maxLen)
  (h : ∀ w : World, (∀ g' cs, (g', cs) ∈ Gl g → ∃ ty fz, w.heap[g']? = some (.cells cs.toArray ty fz)) → Calls Tryz.prog f args.toArray w fun e' w' => e' = .returned (.slice (some ⟨w.heap.size, 0, none⟩) xs.length xs.length) ∧ w' = w.alloc (.cells xs.toArray e)) :
  V.Spec Tryz.prog (Gl g) f ins [] (.c (.ar 100 0)) [(100, .arr 0 ⟨e, []⟩ 1 (xs.map fun x => [.v x]))] := by
 intro fr w pl as0 hw hG m ha
 obtain ⟨hGG, _, _, _⟩ := hG
 rw [qJ hi ha]
 refine Calls.mono (h w fun g' cs hg => by rw [← hw]; exact (m.frOk.glob g' cs (by rw [hGG]; exact hg)).1) ?_
 rintro e' w' ⟨rfl, rfl⟩
 have hfl : ∀ xs : List Value, (xs.map fun x => [D.v x]).flatten = xs.map D.v := by
  intro xs
  induction xs with
  | nil => rfl
  | cons x r ih => simp only [List.map_cons, List.flatten_cons, ih]; rfl
 obtain ⟨pl', m', L, hA⟩ := m.newArr (i := 100) (e := ⟨e, []⟩) (sz := 1) (es := xs.map fun x => [.v x]) (xs := xs) (A := some ⟨w.heap.size, 0, none⟩) (cap := xs.length) rfl (w' := w.alloc (.cells xs.toArray e)) ⟨rfl, rfl, rfl, by simp, fun k hk _ => Below.heap_alloc _ _ _ hk⟩
  ⟨by simp, .inr ⟨w.heap.size, xs.length, xs.toArray, by simp, Nat.zero_le _, heap_alloc_new w _, by simp, hn, by simp, by simp⟩⟩
  (fun ad h => by injection h with h; rw [← h]; exact Nat.le_refl _) (by rw [hfl xs]; exact AllO.of ⟨by simp, fun j d x hd hx => by
   simp only [List.getElem?_map, Option.map_eq_some_iff] at hd
   obtain ⟨y, hy, rfl⟩ := hd
   rw [hy] at hx
   simp only [Option.some.injEq] at hx
   subst hx
   exact .v _ (h1 _ (List.mem_of_getElem? hy))⟩) (fun ds hd => by
   obtain ⟨x, _, rfl⟩ := List.mem_map.1 hd
   rfl)
 have hown : upd (lookO []) 100 (.arr 0 ⟨e, []⟩ 1 (xs.map fun x => [.v x])) = lookO [(100, .arr 0 ⟨e, []⟩ 1 (xs.map fun x => [.v x]))] := by rw [a8]
 rw [hown] at m'
 exact ⟨_, pl', rfl, m', 0, ⟨e, []⟩, 1, _, rfl, Nat.le_refl _, fun _ => by rw [hA]; simp, rfl⟩
theorem aDF (s p : ByteArray) (hs : s.size < 4294967281) (h1 : 1 ≤ p.size) :
  V.Spec Tryz.prog (Gl g) 102 [.c (.d (.v (.string s))), .c (.d (.v (.string p)))] [] (.c (.ar 100 0)) [(100, .arr 0 ⟨9, []⟩ 1 (((Lib.splitB p 0 (Lib.countB s p) s).map Value.string).map fun x => [.v x]))] := by
 have hl : (Lib.splitB p 0 (Lib.countB s p) s).length = Lib.countB s p + 1 := Lib.splitB_all p h1 0 _ s rfl
 have hc := Lib.countB_le p h1 s.size s (Nat.le_refl _)
 refine aFN (args := [.string s, .string p]) rfl (fun x hx => by obtain ⟨y, _, rfl⟩ := List.mem_map.1 hx; rfl) (by rw [List.length_map, hl]; unfold maxLen; omega) fun w hG => ?_
 obtain ⟨ty, fz, h0⟩ := hG 1 [.int .i64 g.maxLen] (by simp [Gl])
 have := Tryz.strings_Split s p g.maxLen w hs (by rw [Lib.cell_of_heap h0]; rfl) h1
 rw [List.length_map, hl]
 exact this
def aIE : Ent Tryz.prog (Gl g) where
 f := 102
 ask := fun _ ins refs => match ins, refs with
  | [.c (.d (.v (.string s))), .c (.d (.v (.string p)))], [] => bif Nat.blt s.size 4294967281 && Nat.ble 1 p.size then some (.c (.ar 100 0), [(100, .arr 0 ⟨9, []⟩ 1 (((Lib.splitB p 0 (Lib.countB s p) s).map Value.string).map fun x => [.v x]))], []) else none
  | _, _ => none
 ok := by
  intro k ins refs post out cs h _
  split at h
  rename_i s p
  cases hb : (Nat.blt s.size 4294967281 && Nat.ble 1 p.size) with
  | false => rw [hb] at h; cases h
  | true =>
   rw [hb] at h
   simp only [cond_true, Option.some.injEq, Prod.mk.injEq] at h
   obtain ⟨rfl, rfl, _⟩ := h
   simp only [Bool.and_eq_true, Nat.blt_eq, Nat.ble_eq] at hb
   exact aDF s p hb.1 hb.2
  cases h
def entCut : Ent Tryz.prog (Gl g) where
 f := 101
 ask := fun _ ins refs => match ins, refs with
  | [.c (.d (.v (.string s))), .c (.d (.v (.string p)))], [] => bif Nat.blt s.data.toList.length 4294967281 then some (.tup [(false, [cS (S (Lib.cut s.data.toList p.data.toList).1)]), (false, [cS (S (Lib.cut s.data.toList p.data.toList).2.1)]), (false, [.d (.b (Lib.cut s.data.toList p.data.toList).2.2)])], [], []) else none
  | _, _ => none
 ok := by
  intro k ins refs post out cs h _
  split at h
  rename_i s p
  cases hb : Nat.blt s.data.toList.length 4294967281 with
  | false => rw [hb] at h; cases h
  | true =>
   rw [hb] at h
   simp only [cond_true, Option.some.injEq, Prod.mk.injEq] at h
   obtain ⟨rfl, rfl, _⟩ := h
   have := cut_ok' (g := g) s.data.toList p.data.toList (by simpa using hb)
   rw [aJI, aJI] at this
   exact this
  cases h
def entIdx : Ent Tryz.prog (Gl g) where
 f := 305
 ask := fun _ ins refs => match ins, refs with
  | [.c (.d (.v (.string s))), .c (.d (.v (.int .u8 c)))], [] => some (.c (cI (Lib.indexByte s.data.toList c.toNat.toUInt8)), [], [])
  | _, _ => none
 ok := by
  intro k ins refs post out cs h _
  split at h
  rename_i s c
  simp only [Option.some.injEq, Prod.mk.injEq] at h
  obtain ⟨rfl, rfl, _⟩ := h
  exact lO (args := [.string s, .int .u8 c]) rfl rfl rfl fun w => (Tryz.stringslite_IndexByte s c w).mono fun _ _ ⟨a, b⟩ => ⟨a, b.symm⟩
  cases h
def T0 : List (Ent Tryz.prog (Gl g)) := [aIE, entCut, entIdx]
theorem ne0 : mD Tryz.prog 357 := ⟨_, Tryz.func357, by kernel_rfl, by kernel_rfl, by kernel_rfl, by kernel_rfl⟩
def N0e : List (NE Tryz.prog) := [⟨_, ne0⟩]
end Go.Proofs.YtdejnaokkdndeaaGreatDoor
namespace Go.Proofs.YtdejnaokkdndeaaGreatDoor
open Go.RowKit Go.V
section
variable {ops : Array Oper} {Q : Exit → Act → List Frame → World → Prop} {i : Nat} {rest : List Nat} {a : Act} {cs : List Frame} {w w' : World} {v : Value} {o : Oper}
theorem dZ (ho : ops[i]? = some o) (hw : Region.wanted o (yielded ops a.tmps) = true) (hr : (execOp a.eval o).run Tryz.prog w = .ok (.value v) w') (h : wpOpsSIn Fence.wide 0 Tryz.prog ops Q rest (a.put o.dst v) cs w') : wpOpsSIn Fence.wide 0 Tryz.prog ops Q (i :: rest) a cs w := by
 simp only [wpOpsSIn, ho]
 refine ⟨fun _ _ => trivial, ?_⟩
 rw [if_pos hw, hr]
 exact h
theorem aDU (ho : ops[i]? = some o) (hw : Region.wanted o (yielded ops a.tmps) = true) (hr : (execOp a.eval o).run Tryz.prog w = .ok .skip w') (h : wpOpsSIn Fence.wide 0 Tryz.prog ops Q rest (a.put o.dst undef) cs w') : wpOpsSIn Fence.wide 0 Tryz.prog ops Q (i :: rest) a cs w := by
 simp only [wpOpsSIn, ho]
 refine ⟨fun _ _ => trivial, ?_⟩
 rw [if_pos hw, hr]
 exact h
theorem tY (ho : ops[i]? = some o) (hw : Region.wanted o (yielded ops a.tmps) = true) (hr : (execOp a.eval o).run Tryz.prog w = .ok .recover w') (hc : recoverD cs = none) (h : wpOpsSIn Fence.wide 0 Tryz.prog ops Q rest (a.put o.dst .nilIface) cs w') : wpOpsSIn Fence.wide 0 Tryz.prog ops Q (i :: rest) a cs w := by
 simp only [wpOpsSIn, ho]
 refine ⟨fun _ _ => trivial, ?_⟩
 rw [if_pos hw, hr]
 simp only [hc]
 exact h
theorem zQ {b : Nat} {ty te : TypeId} {x y : Operand} {cur : Array Value} (ho : ops[i]? = some o) (hw : Region.wanted o (yielded ops a.tmps) = true) (hop : o.op = .store ty x y) (hx : a.eval x = .pointer (some ⟨b, 0, none⟩)) (hy : (a.eval y).cells = cur) (hti' : (Tryz.prog.info? ty).map (·.size) = some cur.size) (hc : w.heap[b]? = some (.cells cur te (0, 0))) (h1 : ∀ v ∈ cur.toList, v.oneCell' = true) (h : wpOpsSIn Fence.wide 0 Tryz.prog ops Q rest (a.put o.dst undef) cs w) : wpOpsSIn Fence.wide 0 Tryz.prog ops Q (i :: rest) a cs w := by
 refine aDU ho hw (w' := w) ?_ h
 obtain ⟨ti, hti, hsz⟩ := Option.map_eq_some_iff.1 hti'
 unfold execOp
 simp only [hop, hx]
 have := run_storeCells_at (P := Tryz.prog) b 0 te cur.toList 0 cur w hc (by simp) h1
 simp only [Nat.add_zero] at this
 simp only [Instr.storeAt, Instr.sureAddr, storeVar, sizeOf, typeInfo]
 simp [hti, hsz, hy, this]
 rw [show (cur.toList ++ List.drop cur.size cur.toList).toArray = cur from by rw [List.drop_of_length_le (by simp)]; simp, setRow_self w b cur te (0, 0) hc]
end
def zPr : Value := .agg #[.int .i64 0, .int .i64 0]
set_option maxRecDepth 100000 in
theorem parseD (args : Array Value) (w : World) (ha : args.size = 3) : CallsDIn Fence.wide 0 Tryz.prog 265 args .returning w fun e u w' => ∃ v, e = .returned v ∧ u = .returning ∧ w.grownBy w' none := by
 obtain ⟨l⟩ := args
 match l, ha with
 | [x, y, z], _ =>
  refine callsDIn_of_wpSIn Tryz.func265 (c := aN Tryz.f265) (by kernel_rfl) trivial fun c₀ cs hu => ?_
  have hrec : recoverD (c₀ :: cs) = none := by simp [recoverD, hu]
  apply wpSIn_seq
  apply wpSIn_region
  refine tY (w' := w) rfl rfl (by kernel_rfl) hrec ?_
  refine dZ (v := .tuple #[zPr, .bool false]) (w' := w) rfl rfl (by kernel_rfl) ?_
  refine dZ (v := .tuple #[zPr, .bool false]) (w' := w) rfl rfl (by kernel_rfl) ?_
  refine dZ (v := zPr) (w' := w) rfl rfl (by kernel_rfl) ?_
  refine dZ (v := .bool false) (w' := w) rfl rfl (by kernel_rfl) ?_
  refine dZ (v := .pointer (some ⟨w.heap.size, 0, none⟩)) (w' := w.alloc (.cells #[.int .i64 0, .int .i64 0] 238)) rfl rfl (by kernel_rfl) ?_
  refine zQ (b := w.heap.size) (te := 238) (cur := #[.int .i64 0, .int .i64 0]) rfl (by kernel_rfl) rfl (by kernel_rfl) (by kernel_rfl) (by kernel_rfl) (heap_alloc_new _ _) (by simp [Value.oneCell']) ?_
  refine dZ (v := .bool false) (w' := w.alloc (.cells #[.int .i64 0, .int .i64 0] 238)) rfl (by kernel_rfl) (by kernel_rfl) ?_
  show (Code.seq _ _).wpSIn Fence.wide 0 Tryz.prog _ _ _ _
  apply wpSIn_seq
  apply wpSIn_region
  refine dZ (v := .bool false) (w' := w.alloc (.cells #[.int .i64 0, .int .i64 0] 238)) rfl (by kernel_rfl) (by kernel_rfl) ?_
  show (Code.cond _ _ _).wpSIn Fence.wide 0 Tryz.prog _ _ _ _
  refine wpSIn_cond (t := false) (by kernel_rfl) ?_
  refine wpSIn_of_wpIn rfl (wpIn_skip ?_)
  refine ⟨rfl, .returning, ?_, ?_⟩
  cases c₀; simp_all
  exact ⟨.tuple #[], by kernel_rfl, _, rfl, rfl, World.grownBy_alloc _ _ _⟩
end Go.Proofs.YtdejnaokkdndeaaGreatDoor
namespace Go.Proofs.YtdejnaokkdndeaaGreatDoor
open Go.RowKit Go.V
open Go.Eng (inR byteAt u8 aU)
def gT (m : Int) : Gv := ⟨m, [(0, tensL.map (Value.int .i64))]⟩
variable {m : Int}
theorem s7 (x y : Int) : SpG (gT m) 281 [.c (cI x), .c (cI y)] [] (.c (cI (Lib.compareInt x y))) [] :=
 lO (args := [.int .i64 x, .int .i64 y]) rfl rfl rfl fun w => (Tryz.cmp_Compare_int x y w).mono fun _ _ ⟨a, b⟩ => ⟨a, b.symm⟩
def aV (s : Int) : Int := tensL.getD s.toNat 0
def spW (n s : Int) : Int := Int.tdiv n (aV s)
def spP (n s : Int) : Int := Int.tmod n (aV s) * Int.tdiv 1000000 (aV s)
theorem yK {s : Int} (h0 : 0 ≤ s) (h1 : s ≤ 6) : aV s = 1 ∨ aV s = 10 ∨ aV s = 100 ∨ aV s = 1000 ∨ aV s = 10000 ∨ aV s = 100000 ∨ aV s = 1000000 := by
 have : s = 0 ∨ s = 1 ∨ s = 2 ∨ s = 3 ∨ s = 4 ∨ s = 5 ∨ s = 6 := by omega
 rcases this with rfl | rfl | rfl | rfl | rfl | rfl | rfl <;> simp [aV, tensL]
theorem gS {s : Int} (h0 : 0 ≤ s) (h1 : s ≤ 6) : 1 ≤ aV s ∧ aV s ≤ 1000000 ∧ 1 ≤ Int.tdiv 1000000 (aV s) ∧ aV s * Int.tdiv 1000000 (aV s) = 1000000 := by
 rcases yK h0 h1 with h | h | h | h | h | h | h <;> rw [h] <;> decide
theorem sp_bd {n s : Int} (h0 : 0 ≤ s) (h1 : s ≤ 6) (hn : -1000000000000000 ≤ n) (hm : n ≤ 1000000000000000) : aV s ≠ 0 ∧ inR (Int.tdiv n (aV s)) ∧ inR (Int.tdiv 1000000 (aV s)) ∧ inR (Int.tmod n (aV s) * Int.tdiv 1000000 (aV s)) := by
 obtain ⟨a, b, c, d⟩ := gS h0 h1
 have e1 : (Int.tdiv n (aV s)).natAbs ≤ n.natAbs := by rw [Int.natAbs_tdiv]; exact Nat.div_le_self _ _
 have e2 := lB (x := n) (n := aV s) a
 have e3 : Int.tdiv 1000000 (aV s) ≤ 1000000 := by
  have := Int.mul_le_mul_of_nonneg_right a (show 0 ≤ Int.tdiv 1000000 (aV s) by omega)
  rw [d, Int.one_mul] at this; exact this
 have e4 : (Int.tmod n (aV s) * Int.tdiv 1000000 (aV s)).natAbs ≤ 1000000 * 1000000 := by
  rw [Int.natAbs_mul]
  exact Nat.mul_le_mul (by omega) (by omega)
 unfold inR
 refine ⟨by omega, by omega, by omega, by omega⟩
def aAX (a b c d : Int) : Int := if Lib.compareInt (spW a b) (spW c d) = 0 then Lib.compareInt (spP a b) (spP c d) else Lib.compareInt (spW a b) (spW c d)
abbrev y10 (a0 : Int) (a1 : Int) : SV := .tup [(false, [cI a0]), (false, [cI a1])]
theorem split_ok (n s : Int) (h : cD n s = true) :
  SpG (gT m) 276 [.agg [cI n, cI s]] [] (y10 (spW n s) (spP n s)) [] := by
 obtain ⟨b0, b1, b2, b3, b4⟩ := iJ h
 obtain ⟨c0, c1, c2, c3⟩ := sp_bd b0 b1 b2 b3
 have e0 : tensL.getD (0 + s.toNat * 1) 0 = aV s := by rw [Nat.zero_add, Nat.mul_one]; rfl
 refine aL 22 Tryz.func276 (by kernel_rfl) fun fr hG => ?_
 refine zR hG [(1, 1, kC (.agg [cI n, cI s])), (2, 3, .elem [.i (tensL.getD (0 + (s : Int).toNat * 1) 0)])] [] (y10 (Int.tdiv n (tensL.getD (0 + (s : Int).toNat * 1) 0)) ((Int.tmod n (tensL.getD (0 + (s : Int).toNat * 1) 0)) * (Int.tdiv 1000000 (tensL.getD (0 + (s : Int).toNat * 1) 0)))) [] (aB (xQ n s h : SpG (gT m) _ _ _ _ _) (aB (by intros; first | omega | exact ⟨by omega, by show _ < ((7 : Nat) : Int); omega⟩ | (simp only [e0]; first | exact ⟨c0, c1⟩ | exact ⟨c0, c2⟩ | exact c0 | exact c1 | exact c2 | exact c3) : (0 : Int) ≤ s ∧ s < ((7 : Nat) : Int)) (aB (by intros; exact dV 0 (by show _ < 7; omega) : (tensL.map (Value.int .i64) : List Value)[0 + (s : Int).toNat * 1]? = some (.int .i64 (tensL.getD (0 + (s : Int).toNat * 1) 0))) (aB (by intros; first | omega | exact ⟨by omega, by show _ < ((7 : Nat) : Int); omega⟩ | (simp only [e0]; first | exact ⟨c0, c1⟩ | exact ⟨c0, c2⟩ | exact c0 | exact c1 | exact c2 | exact c3) : (tensL.getD (0 + (s : Int).toNat * 1) 0) ≠ (0 : Int) ∧ inR (Int.tdiv n (tensL.getD (0 + (s : Int).toNat * 1) 0))) (aB (by intros; first | omega | exact ⟨by omega, by show _ < ((7 : Nat) : Int); omega⟩ | (simp only [e0]; first | exact ⟨c0, c1⟩ | exact ⟨c0, c2⟩ | exact c0 | exact c1 | exact c2 | exact c3) : (tensL.getD (0 + (s : Int).toNat * 1) 0) ≠ (0 : Int)) (aB (by intros; first | omega | exact ⟨by omega, by show _ < ((7 : Nat) : Int); omega⟩ | (simp only [e0]; first | exact ⟨c0, c1⟩ | exact ⟨c0, c2⟩ | exact c0 | exact c1 | exact c2 | exact c3) : (tensL.getD (0 + (s : Int).toNat * 1) 0) ≠ (0 : Int) ∧ inR (Int.tdiv 1000000 (tensL.getD (0 + (s : Int).toNat * 1) 0))) (aD (by intros; first | omega | exact ⟨by omega, by show _ < ((7 : Nat) : Int); omega⟩ | (simp only [e0]; first | exact ⟨c0, c1⟩ | exact ⟨c0, c2⟩ | exact c0 | exact c1 | exact c2 | exact c3) : inR ((Int.tmod n (tensL.getD (0 + (s : Int).toNat * 1) 0)) * (Int.tdiv 1000000 (tensL.getD (0 + (s : Int).toNat * 1) 0))))))))))) ?_ ?_
 simp only [e0, spW, spP]
 rfl
theorem or_ok {x y : Int} :
  SpG (gT m) 280 [.c (cM 1 ([[.i x], [.i y]] : List (List D)))] [] (.c (cI (if x = 0 then y else x))) [] := by
 refine aL 18 Tryz.func280 (by kernel_rfl) fun fr hG => ?_
 refine rI hG fB [] [0, 1, 0, 1, 1] ((fun (zz : Nat) => match zz with | 0 => ⟨[zI 2 0, zI 3 0, zM 6 1 ([[.i x], [.i y]] : List (List D)), zI 7 2, zI 8 0], []⟩ | 1 => ⟨[zI 2 0, zI 3 0, zM 6 1 ([[.i x], [.i y]] : List (List D)), zI 7 2, zI 8 1], []⟩ | _ => ⟨[zI 2 0, zI 3 0, zM 6 1 ([[.i x], [.i y]] : List (List D)), zI 7 2, zI 8 2], []⟩) 0) _ (by kernel_rfl) aA ?_
 refine aBZ (σ := Nat) (fun (zz : Nat) => match zz with | k => 3 - k) (fun (zz : Nat) => match zz with | 0 => ⟨[zI 2 0, zI 3 0, zM 6 1 ([[.i x], [.i y]] : List (List D)), zI 7 2, zI 8 0], []⟩ | 1 => ⟨[zI 2 0, zI 3 0, zM 6 1 ([[.i x], [.i y]] : List (List D)), zI 7 2, zI 8 1], []⟩ | _ => ⟨[zI 2 0, zI 3 0, zM 6 1 ([[.i x], [.i y]] : List (List D)), zI 7 2, zI 8 2], []⟩) (fun (zz : Nat) => match zz with | k => k ≤ 2 ∧ (1 ≤ k → x = 0) ∧ (2 ≤ k → y = 0)) 0 (by kernel_rfl) ?_ ?_
 exact ⟨Nat.zero_le _, by omega, by omega⟩
 rintro k ⟨hI, hx, hy⟩
 rcases (by omega : k = 0 ∨ k = 1 ∨ k = 2) with rfl | rfl | rfl
 skip
 refine zc hG [] [0, 1] (true) aA (fun _ => ?_) (fun hc2 => absurd hc2 (by decide))
 refine zC hG [(4, 0, .elem ([.i x]))] [1, 1, 0, 0, 1, 1] (!decide ((x : Int) = 0)) (⟨[zI 2 0, zI 3 0, zI 5 x, zM 6 1 ([[.i x], [.i y]] : List (List D)), zI 7 2, zI 8 0], []⟩) (aD (show (0 : Int) ≤ 0 ∧ ([[.i x], [.i y]] : List (List D))[0]? = some ([.i x]) from ⟨by decide, rfl⟩)) (fun hc3 => ?_) (fun hc3 => ?_)
 (try simp only [blS] at hc3)
 refine zE hG [] .ret (⟨[zI 2 x, zI 3 0], []⟩) aA rfl ?_
 refine zR hG [] [] (.c (cI x)) [] aA ?_ ?_
 have e1 := hx; have e2 := hy
 by_cases h0 : x = 0 <;> by_cases h1 : y = 0 <;> simp_all
 rfl
 (try simp only [blS] at hc3)
 refine zD hG [] 1 (aD (by unfold inR; decide : inR (0 + 1))) ?_ ?_
 (try dsimp only); decide
 exact ⟨by decide, by intros; omega, by intros; omega⟩
 skip
 refine zc hG [] [0, 1] (true) aA (fun _ => ?_) (fun hc4 => absurd hc4 (by decide))
 refine zC hG [(4, 0, .elem ([.i y]))] [1, 1, 0, 0, 1, 1] (!decide ((y : Int) = 0)) (⟨[zI 2 0, zI 3 0, zI 5 y, zM 6 1 ([[.i x], [.i y]] : List (List D)), zI 7 2, zI 8 1], []⟩) (aD (show (0 : Int) ≤ 1 ∧ ([[.i x], [.i y]] : List (List D))[1]? = some ([.i y]) from ⟨by decide, rfl⟩)) (fun hc5 => ?_) (fun hc5 => ?_)
 (try simp only [blS] at hc5)
 refine zE hG [] .ret (⟨[zI 2 y, zI 3 0], []⟩) aA rfl ?_
 refine zR hG [] [] (.c (cI y)) [] aA ?_ ?_
 have e1 := hx; have e2 := hy
 by_cases h0 : x = 0 <;> by_cases h1 : y = 0 <;> simp_all
 rfl
 (try simp only [blS] at hc5)
 refine zD hG [] 2 (aD (by unfold inR; decide : inR (1 + 1))) ?_ ?_
 (try dsimp only); decide
 exact ⟨by decide, by intros; omega, by intros; omega⟩
 skip
 refine zc hG [] [0, 1] (false) aA (fun hc6 => absurd hc6 (by decide)) (fun _ => ?_)
 refine zE hG [] (.exit 0) (⟨[zI 2 0, zI 3 0], []⟩) aA rfl ?_
 refine zR hG [] [] (.c (cI 0)) [] aA ?_ ?_
 have e1 := hx; have e2 := hy
 by_cases h0 : x = 0 <;> by_cases h1 : y = 0 <;> simp_all
 rfl
theorem aEV (a b c d : Int) (h1 : cD a b = true) (h2 : cD c d = true) :
  SpG (gT m) 208 [.agg [cI a, cI b], .agg [cI c, cI d]] [] (.c (cI (aAX a b c d))) [] := by
 refine aL 27 Tryz.func208 (by kernel_rfl) fun fr hG => ?_
 exact zr hG [(1, 1, kC (y10 (spW a b) (spP a b))), (2, 1, kC (y10 (spW c d) (spP c d))), (3, 2, kI (Lib.compareInt (spW a b) (spW c d))), (3, 5, kI (Lib.compareInt (spP a b) (spP c d))), (3, 7, kI (aAX a b c d))] [] (aB (split_ok a b (by assumption) : SpG (gT m) _ _ _ _ _) (aB (split_ok c d (by assumption) : SpG (gT m) _ _ _ _ _) (aB (s7 (spW a b) (spW c d) : SpG (gT m) _ _ _ _ _) (aB (s7 (spP a b) (spP c d) : SpG (gT m) _ _ _ _ _) (aD (or_ok (x := Lib.compareInt (spW a b) (spW c d)) (y := Lib.compareInt (spP a b) (spP c d)) : SpG (gT m) _ _ _ _ _))))))
end Go.Proofs.YtdejnaokkdndeaaGreatDoor
namespace Go.Proofs.YtdejnaokkdndeaaGreatDoor
open Go.RowKit Go.V
open Go.Eng (inR byteAt u8 aU)
def cX (n s : Int) : Int := n * Int.tdiv 1000000 (aV s)
theorem aFP {n s : Int} (h0 : 0 ≤ s) (h1 : s ≤ 6) : cX n s = 1000000 * spW n s + spP n s ∧ -1000000 < spP n s ∧ spP n s < 1000000 ∧ ((0 ≤ spW n s ∧ 0 ≤ spP n s) ∨ (spW n s ≤ 0 ∧ spP n s ≤ 0)) := by
 have key : ∀ d u : Int, 0 < d → 0 < u → d * u = 1000000 → n * u = 1000000 * Int.tdiv n d + Int.tmod n d * u ∧ -1000000 < Int.tmod n d * u ∧ Int.tmod n d * u < 1000000 ∧ ((0 ≤ Int.tdiv n d ∧ 0 ≤ Int.tmod n d * u) ∨ (Int.tdiv n d ≤ 0 ∧ Int.tmod n d * u ≤ 0)) := by
  intro d u hd hu hdu
  have e := Int.mul_tdiv_add_tmod n d
  have e2 : n * u = 1000000 * Int.tdiv n d + Int.tmod n d * u := by
   conv => lhs; rw [← e]
   rw [Int.add_mul, Int.mul_right_comm, hdu]
  have b1 : Int.tmod n d < d := Int.tmod_lt_of_pos n hd
  have b2 : -d < Int.tmod n d := by
   have := Int.lt_tmod_of_pos n hd
   omega
  have c1 : Int.tmod n d * u < d * u := Int.mul_lt_mul_of_pos_right b1 hu
  have c2 : -d * u < Int.tmod n d * u := Int.mul_lt_mul_of_pos_right b2 hu
  rw [Int.neg_mul] at c2
  refine ⟨e2, by omega, by omega, ?_⟩
  by_cases hn : 0 ≤ n
  exact .inl ⟨Int.tdiv_nonneg hn (by omega), Int.mul_nonneg (Int.tmod_nonneg d hn) (by omega)⟩
  refine .inr ⟨?_, ?_⟩
  have := Int.tdiv_nonneg (a := -n) (b := d) (by omega) (by omega)
  rw [Int.neg_tdiv] at this; omega
  have := Int.tmod_nonneg (a := -n) d (by omega)
  rw [Int.neg_tmod] at this
  have h3 := Int.mul_nonneg this (show 0 ≤ u by omega)
  rw [Int.neg_mul] at h3; omega
 obtain ⟨a, b, c, d⟩ := gS h0 h1
 exact key (aV s) (Int.tdiv 1000000 (aV s)) (by omega) (by omega) d
theorem dv0 (n : Int) : cX n 0 = n * 1000000 := rfl
theorem dv1 (n : Int) : cX n 1 = n * 100000 := rfl
theorem dv2 (n : Int) : cX n 2 = n * 10000 := rfl
theorem dv3 (n : Int) : cX n 3 = n * 1000 := rfl
theorem dv4 (n : Int) : cX n 4 = n * 100 := rfl
theorem dv5 (n : Int) : cX n 5 = n * 10 := rfl
theorem dv6 (n : Int) : cX n 6 = n * 1 := rfl
theorem sZ {a b c d : Int} (x1 : 0 ≤ b) (x2 : b ≤ 6) (y1 : 0 ≤ d) (y2 : d ≤ 6) (t1 : b = 0 ∨ ¬ a % 10 = 0) (t2 : d = 0 ∨ ¬ c % 10 = 0) (h : cX a b = cX c d) : a = c ∧ b = d := by
 have hb : b = 0 ∨ b = 1 ∨ b = 2 ∨ b = 3 ∨ b = 4 ∨ b = 5 ∨ b = 6 := by omega
 have hd : d = 0 ∨ d = 1 ∨ d = 2 ∨ d = 3 ∨ d = 4 ∨ d = 5 ∨ d = 6 := by omega
 clear x1 x2 y1 y2
 rcases hb with rfl | rfl | rfl | rfl | rfl | rfl | rfl <;> rcases hd with rfl | rfl | rfl | rfl | rfl | rfl | rfl <;> simp only [dv0, dv1, dv2, dv3, dv4, dv5, dv6] at h <;> omega
theorem aIL {a b c d : Int} (h1 : cD a b = true) (h2 : cD c d = true) (h : cX a b = cX c d) : a = c ∧ b = d := by
 obtain ⟨x1, x2, x3, x4, x5⟩ := iJ h1
 obtain ⟨y1, y2, y3, y4, y5⟩ := iJ h2
 have t1 : b = 0 ∨ ¬ a % 10 = 0 := x5.imp id fun hh hm => hh (by rw [← Int.dvd_iff_tmod_eq_zero]; exact Int.dvd_of_emod_eq_zero hm)
 have t2 : d = 0 ∨ ¬ c % 10 = 0 := y5.imp id fun hh hm => hh (by rw [← Int.dvd_iff_tmod_eq_zero]; exact Int.dvd_of_emod_eq_zero hm)
 exact sZ x1 x2 y1 y2 t1 t2 h
def isJ (V rn rs : Int) (rb : Bool) : Prop := (rb = true → cD rn rs = true ∧ cX rn rs = V) ∧ (rb = false → rn = 0 ∧ rs = 0 ∧ ∀ n s, cD n s = true → ¬ cX n s = V)
theorem td6 (p : Int) : 1000000 * Int.tdiv p 1000000 + Int.tmod p 1000000 = p ∧ -1000000 < Int.tmod p 1000000 ∧ Int.tmod p 1000000 < 1000000 := by
 have b2 := Int.lt_tmod_of_pos p (show (0 : Int) < 1000000 by decide)
 exact ⟨Int.mul_tdiv_add_tmod p 1000000, by omega, Int.tmod_lt_of_pos p (by decide)⟩
theorem vS (q : Int) : 10 * Int.tdiv q 10 + Int.tmod q 10 = q ∧ (Int.tmod q 10 = 0 ↔ q % 10 = 0) := by
 refine ⟨Int.mul_tdiv_add_tmod q 10, fun h => ?_, fun h => ?_⟩
 have := Int.mul_tdiv_add_tmod q 10; omega
 rw [← Int.dvd_iff_tmod_eq_zero]; exact Int.dvd_of_emod_eq_zero h
theorem oZ {k : Int} (h0 : 0 ≤ k) (h1 : k ≤ 6) : k = 0 ∨ k = 1 ∨ k = 2 ∨ k = 3 ∨ k = 4 ∨ k = 5 ∨ k = 6 := by omega
theorem tn0 : aV 0 = 1 := rfl
theorem tn1 : aV 1 = 10 := rfl
theorem tn2 : aV 2 = 100 := rfl
theorem tn3 : aV 3 = 1000 := rfl
theorem tn4 : aV 4 = 10000 := rfl
theorem tn5 : aV 5 = 100000 := rfl
theorem tn6 : aV 6 = 1000000 := rfl
theorem uM {q k P : Int} (h0 : 0 ≤ k) (h1 : k ≤ 6) (hq : cX q k = P) (a : -aV k < q) (b : q < aV k) (c : k > 0) (d : Int.tmod q 10 = 0) : 0 ≤ k - 1 ∧ k - 1 ≤ 6 ∧ cX (Int.tdiv q 10) (k - 1) = P ∧ -aV (k - 1) < Int.tdiv q 10 ∧ Int.tdiv q 10 < aV (k - 1) := by
 have e := (vS q).1
 rw [d] at e
 rcases oZ h0 h1 with rfl | rfl | rfl | rfl | rfl | rfl | rfl
 omega
 simp only [show (1 : Int) - 1 = 0 from rfl, dv0, dv1, tn0, tn1] at *; omega
 simp only [show (2 : Int) - 1 = 1 from rfl, dv1, dv2, tn1, tn2] at *; omega
 simp only [show (3 : Int) - 1 = 2 from rfl, dv2, dv3, tn2, tn3] at *; omega
 simp only [show (4 : Int) - 1 = 3 from rfl, dv3, dv4, tn3, tn4] at *; omega
 simp only [show (5 : Int) - 1 = 4 from rfl, dv4, dv5, tn4, tn5] at *; omega
 simp only [show (6 : Int) - 1 = 5 from rfl, dv5, dv6, tn5, tn6] at *; omega
theorem iQ {q k P W : Int} (h0 : 0 ≤ k) (h1 : k ≤ 6) (hq : cX q k = P) (a : -aV k < q) (b : q < aV k) (c : k = 0 ∨ ¬ Int.tmod q 10 = 0) (hs : (0 ≤ W ∧ 0 ≤ P) ∨ (W ≤ 0 ∧ P ≤ 0)) : cX (W * aV k + q) k = 1000000 * W + P ∧ (k = 0 ∨ ¬ (W * aV k + q) % 10 = 0) ∧ ((W < -Int.tdiv 1000000000000000 (aV k) ∨ W > Int.tdiv 1000000000000000 (aV k)) → W * aV k + q < -1000000000000000 ∨ 1000000000000000 < W * aV k + q) := by
 have e := (vS q).2
 rw [e] at c
 rcases oZ h0 h1 with rfl | rfl | rfl | rfl | rfl | rfl | rfl
 simp only [dv0, tn0, show Int.tdiv 1000000000000000 1 = 1000000000000000 from rfl] at hq a b ⊢; exact ⟨by omega, .inl trivial, by omega⟩
 simp only [dv1, tn1, show Int.tdiv 1000000000000000 10 = 100000000000000 from rfl] at *; omega
 simp only [dv2, tn2, show Int.tdiv 1000000000000000 100 = 10000000000000 from rfl] at *; omega
 simp only [dv3, tn3, show Int.tdiv 1000000000000000 1000 = 1000000000000 from rfl] at *; omega
 simp only [dv4, tn4, show Int.tdiv 1000000000000000 10000 = 100000000000 from rfl] at *; omega
 simp only [dv5, tn5, show Int.tdiv 1000000000000000 100000 = 10000000000 from rfl] at *; omega
 simp only [dv6, tn6, show Int.tdiv 1000000000000000 1000000 = 1000000000 from rfl] at *; omega
theorem l4 {n s : Int} (h0 : 0 ≤ s) (h1 : s ≤ 6) (t : s = 0 ∨ ¬ n % 10 = 0) (a : -1000000000000000 ≤ n) (b : n ≤ 1000000000000000) : cD n s = true := by
 have e := (vS n).2
 simp only [cD, Bool.and_eq_true, Bool.or_eq_true, decide_eq_true_eq]
 exact ⟨⟨⟨⟨h0, h1⟩, a⟩, b⟩, t.imp id fun h h' => h (e.1 h')⟩
theorem decB_t {n s : Int} (h : cD n s = true) : s = 0 ∨ ¬ n % 10 = 0 := by
 obtain ⟨_, _, _, _, t⟩ := iJ h
 exact t.imp id fun h h' => h ((vS n).2.2 h')
theorem aB2 {n s V rn rs : Int} {rb : Bool} (h : isJ V rn rs rb) (hb : cD n s = true) (hv : cX n s = V) : rn = n ∧ rs = s ∧ rb = true := by
 cases rb with
 | false => exact absurd hv ((h.2 rfl).2.2 n s hb)
 | true =>
  obtain ⟨a, b⟩ := h.1 rfl
  obtain ⟨c, d⟩ := aIL a hb (by rw [b, hv])
  exact ⟨c, d, rfl⟩
theorem w8 {n s V rn rs : Int} {rb : Bool} (h : isJ V rn rs rb) (h0 : 0 ≤ s) (h1 : s ≤ 6) (t : s = 0 ∨ ¬ n % 10 = 0) (hv : cX n s = V) (hb : n < -1000000000000000 ∨ 1000000000000000 < n) : rn = 0 ∧ rs = 0 ∧ rb = false := by
 cases rb with
 | false => exact ⟨(h.2 rfl).1, (h.2 rfl).2.1, rfl⟩
 | true =>
  obtain ⟨a, b⟩ := h.1 rfl
  obtain ⟨y1, y2, y3, y4, y5⟩ := iJ a
  obtain ⟨c, d⟩ := sZ y1 y2 h0 h1 (decB_t a) t (by rw [b, hv])
  omega
theorem vX {n s : Int} (h : cD n s = true) : -1000000000000000 ≤ spW n s ∧ spW n s ≤ 1000000000000000 ∧ -1000000 < spP n s ∧ spP n s < 1000000 ∧ cX n s = 1000000 * spW n s + spP n s := by
 obtain ⟨a, b, c, d, _⟩ := iJ h
 obtain ⟨e, f, g, i⟩ := aFP (n := n) a b
 refine ⟨?_, ?_, f, g, e⟩ <;> (rcases oZ a b with rfl | rfl | rfl | rfl | rfl | rfl | rfl <;> simp only [dv0, dv1, dv2, dv3, dv4, dv5, dv6] at e <;> omega)
end Go.Proofs.YtdejnaokkdndeaaGreatDoor
namespace Go.Proofs.YtdejnaokkdndeaaGreatDoor
open Go.RowKit Go.V
open Go.Eng (inR byteAt u8 aU)
variable {m : Int}
end Go.Proofs.YtdejnaokkdndeaaGreatDoor
namespace Go.Proofs.YtdejnaokkdndeaaGreatDoor
open Go.RowKit Go.V
open Go.Eng (inR byteAt u8 aU)
variable {m : Int}
theorem aC {x : Int} (a : -9000000000000000000 ≤ x) (b : x ≤ 9000000000000000000) : inR x := by unfold inR; omega
theorem tN {k : Int} (h0 : 0 ≤ k) (h1 : k ≤ 6) : tensL.getD (0 + k.toNat * 1) 0 = aV k := by rw [Nat.zero_add, Nat.mul_one]; rfl
theorem oO {W k q : Int} (h0 : 0 ≤ k) (h1 : k ≤ 6) (a : ¬ (W < -Int.tdiv 1000000000000000 (aV k) ∨ W > Int.tdiv 1000000000000000 (aV k))) : -1000000000000000 ≤ W * aV k ∧ W * aV k ≤ 1000000000000000 ∧ aV k ≤ 1000000 := by
 rcases oZ h0 h1 with rfl | rfl | rfl | rfl | rfl | rfl | rfl
 simp only [tn0, show Int.tdiv 1000000000000000 1 = 1000000000000000 from rfl] at *; omega
 simp only [tn1, show Int.tdiv 1000000000000000 10 = 100000000000000 from rfl] at *; omega
 simp only [tn2, show Int.tdiv 1000000000000000 100 = 10000000000000 from rfl] at *; omega
 simp only [tn3, show Int.tdiv 1000000000000000 1000 = 1000000000000 from rfl] at *; omega
 simp only [tn4, show Int.tdiv 1000000000000000 10000 = 100000000000 from rfl] at *; omega
 simp only [tn5, show Int.tdiv 1000000000000000 100000 = 10000000000 from rfl] at *; omega
 simp only [tn6, show Int.tdiv 1000000000000000 1000000 = 1000000000 from rfl] at *; omega
theorem oH {k : Int} (h0 : 0 ≤ k) (h1 : k ≤ 6) : aV k ≠ 0 ∧ 0 ≤ Int.tdiv 1000000000000000 (aV k) ∧ Int.tdiv 1000000000000000 (aV k) ≤ 1000000000000000 := by
 rcases oZ h0 h1 with rfl | rfl | rfl | rfl | rfl | rfl | rfl <;> decide
theorem tdiv_le (q : Int) (h : -2000000 ≤ q ∧ q ≤ 2000000) : -2000000 ≤ Int.tdiv q 10 ∧ Int.tdiv q 10 ≤ 2000000 := by
 have := Int.mul_tdiv_add_tmod q 10
 have b2 := Int.lt_tmod_of_pos q (show (0 : Int) < 10 by decide)
 have b1 := Int.tmod_lt_of_pos q (show (0 : Int) < 10 by decide)
 omega
theorem lP {x : Int} (a : 0 ≤ x) (b : x ≤ 1000000000000000) : IntKind.wrap .i64 (0 - x) = -x := by
 rw [wrap64 (by unfold inR; omega)]; omega
theorem aAW (w p rn rs : Int) (rb : Bool) (hw : -4000000000000000 ≤ w ∧ w ≤ 4000000000000000) (hp : -4000000 ≤ p ∧ p ≤ 4000000) (h : isJ (1000000 * w + p) rn rs rb) :
  SpG (gT m) 277 [.c (cI w), .c (cI p)] [] (y3 rn rs rb) [] := by
 have t6 := td6 p
 refine aL 74 Tryz.func277 (by kernel_rfl) fun fr hG => ?_
 refine zC hG [] [1, 0, 1, 1, 1] ((decide ((w + (Int.tdiv p 1000000) : Int) > 0)) && (decide ((Int.tmod p 1000000 : Int) < 0))) (⟨[zI 0 (w + (Int.tdiv p 1000000)), zI 1 (Int.tmod p 1000000), zX 4 100 0, zB 5 false], [(100, .box 38 [cI 0, cI 0])]⟩) (aB (by intros; first | omega | decide | exact aC (by omega) (by omega) | exact ⟨by omega, aC (by omega) (by omega)⟩ | exact ⟨by omega, by show _ < ((7 : Nat) : Int); omega⟩ | (simp only [e0]; first | exact aC (by omega) (by omega) | exact ⟨hmo.1, aC (by omega) (by omega)⟩ | omega) : 1000000 ≠ (0 : Int) ∧ inR (Int.tdiv p 1000000)) (aB (by intros; first | omega | decide | exact aC (by omega) (by omega) | exact ⟨by omega, aC (by omega) (by omega)⟩ | exact ⟨by omega, by show _ < ((7 : Nat) : Int); omega⟩ | (simp only [e0]; first | exact aC (by omega) (by omega) | exact ⟨hmo.1, aC (by omega) (by omega)⟩ | omega) : inR (w + (Int.tdiv p 1000000))) (aD (by intros; first | omega | decide | exact aC (by omega) (by omega) | exact ⟨by omega, aC (by omega) (by omega)⟩ | exact ⟨by omega, by show _ < ((7 : Nat) : Int); omega⟩ | (simp only [e0]; first | exact aC (by omega) (by omega) | exact ⟨hmo.1, aC (by omega) (by omega)⟩ | omega) : 1000000 ≠ (0 : Int))))) (fun hc1 => ?_) (fun hc1 => ?_)
 (try simp only [blS] at hc1)
 refine zC hG [] [1, 0, 1, 1, 1, 1] ((decide (((w + (Int.tdiv p 1000000)) - 1 : Int) < 0)) && (decide (((Int.tmod p 1000000) + 1000000 : Int) > 0))) (⟨[zI 0 ((w + (Int.tdiv p 1000000)) - 1), zI 1 ((Int.tmod p 1000000) + 1000000), zX 4 100 0, zB 5 false], [(100, .box 38 [cI 0, cI 0])]⟩) (aB (by intros; first | omega | decide | exact aC (by omega) (by omega) | exact ⟨by omega, aC (by omega) (by omega)⟩ | exact ⟨by omega, by show _ < ((7 : Nat) : Int); omega⟩ | (simp only [e0]; first | exact aC (by omega) (by omega) | exact ⟨hmo.1, aC (by omega) (by omega)⟩ | omega) : inR ((w + (Int.tdiv p 1000000)) - 1)) (aD (by intros; first | omega | decide | exact aC (by omega) (by omega) | exact ⟨by omega, aC (by omega) (by omega)⟩ | exact ⟨by omega, by show _ < ((7 : Nat) : Int); omega⟩ | (simp only [e0]; first | exact aC (by omega) (by omega) | exact ⟨hmo.1, aC (by omega) (by omega)⟩ | omega) : inR ((Int.tmod p 1000000) + 1000000)))) (fun hc2 => ?_) (fun hc2 => ?_)
 (try simp only [blS] at hc2)
 refine zL hG [] [0, 0, 1, 1, 1, 1, 1, 1] (fun (zz : Int × Int) => match zz with | (q, k) => (k.toNat, ⟨[zI 0 (((w + (Int.tdiv p 1000000)) - 1) + 1), zI 1 q, zX 4 100 0, zB 5 false, zI 6 k], [(100, .box 38 [cI 0, cI 0])]⟩, 0 ≤ k ∧ k ≤ 6 ∧ cX q k = (((Int.tmod p 1000000) + 1000000) - 1000000) ∧ -aV k < q ∧ q < aV k ∧ isJ (1000000 * (((w + (Int.tdiv p 1000000)) - 1) + 1) + (((Int.tmod p 1000000) + 1000000) - 1000000)) rn rs rb ∧ ((0 ≤ (((w + (Int.tdiv p 1000000)) - 1) + 1 : Int) ∧ 0 ≤ (((Int.tmod p 1000000) + 1000000) - 1000000)) ∨ ((((w + (Int.tdiv p 1000000)) - 1) + 1 : Int) ≤ 0 ∧ (((Int.tmod p 1000000) + 1000000) - 1000000) ≤ 0)) ∧ -5000000000000000 ≤ (((w + (Int.tdiv p 1000000)) - 1) + 1 : Int) ∧ (((w + (Int.tdiv p 1000000)) - 1) + 1 : Int) ≤ 5000000000000000)) (((Int.tmod p 1000000) + 1000000) - 1000000, 6) (aB (by intros; first | omega | decide | exact aC (by omega) (by omega) | exact ⟨by omega, aC (by omega) (by omega)⟩ | exact ⟨by omega, by show _ < ((7 : Nat) : Int); omega⟩ | (simp only [e0]; first | exact aC (by omega) (by omega) | exact ⟨hmo.1, aC (by omega) (by omega)⟩ | omega) : inR (((w + (Int.tdiv p 1000000)) - 1) + 1)) (aD (by intros; first | omega | decide | exact aC (by omega) (by omega) | exact ⟨by omega, aC (by omega) (by omega)⟩ | exact ⟨by omega, by show _ < ((7 : Nat) : Int); omega⟩ | (simp only [e0]; first | exact aC (by omega) (by omega) | exact ⟨hmo.1, aC (by omega) (by omega)⟩ | omega) : inR (((Int.tmod p 1000000) + 1000000) - 1000000)))) ?_ ?_
 refine ⟨by decide, by decide, Int.mul_one _, by rw [tn6]; omega, by rw [tn6]; omega, ?_, by omega, by omega, by omega⟩
 rw [show 1000000 * (((w + (Int.tdiv p 1000000)) - 1) + 1) + (((Int.tmod p 1000000) + 1000000) - 1000000) = 1000000 * w + p by omega]; exact h
 rintro ⟨q, k⟩ ⟨hk0, hk6, hq, hq1, hq2, hj, hsg, hw1, hw2⟩
 have hmo := oH hk0 hk6
 have e0 := tN hk0 hk6
 have htd := vS q
 have hten := gS hk0 hk6
 have hws := fun a => oO (W := ((w + (Int.tdiv p 1000000)) - 1) + 1) (q := q) hk0 hk6 a
 have htl := tdiv_le q (by omega)
 have hwr := lP (x := Int.tdiv 1000000000000000 (aV k)) (by omega) (by omega)
 refine zc hG [] [1, 0] ((decide ((k : Int) > 0)) && (decide ((Int.tmod q 10 : Int) = 0))) (aD (by intros; first | omega | decide | exact aC (by omega) (by omega) | exact ⟨by omega, aC (by omega) (by omega)⟩ | exact ⟨by omega, by show _ < ((7 : Nat) : Int); omega⟩ | (simp only [e0]; first | exact aC (by omega) (by omega) | exact ⟨hmo.1, aC (by omega) (by omega)⟩ | omega) : (decide ((k : Int) > 0)) = true → 10 ≠ (0 : Int))) (fun hc4 => ?_) (fun hc4 => ?_)
 (try simp only [blS] at hc4)
 refine zD hG [] (Int.tdiv q 10, k - 1) (aB (by intros; first | omega | decide | exact aC (by omega) (by omega) | exact ⟨by omega, aC (by omega) (by omega)⟩ | exact ⟨by omega, by show _ < ((7 : Nat) : Int); omega⟩ | (simp only [e0]; first | exact aC (by omega) (by omega) | exact ⟨hmo.1, aC (by omega) (by omega)⟩ | omega) : 10 ≠ (0 : Int) ∧ inR (Int.tdiv q 10)) (aD (by intros; first | omega | decide | exact aC (by omega) (by omega) | exact ⟨by omega, aC (by omega) (by omega)⟩ | exact ⟨by omega, by show _ < ((7 : Nat) : Int); omega⟩ | (simp only [e0]; first | exact aC (by omega) (by omega) | exact ⟨hmo.1, aC (by omega) (by omega)⟩ | omega) : inR (k - 1)))) ?_ ?_
 (try dsimp only); omega
 obtain ⟨s1, s2, s3, s4, s5⟩ := uM hk0 hk6 hq hq1 hq2 (by omega) (by omega)
 exact ⟨s1, s2, s3, s4, s5, hj, hsg, hw1, hw2⟩
 (try simp only [blS] at hc4)
 refine zE hG [] (.exit 0) (⟨[zI 0 (((w + (Int.tdiv p 1000000)) - 1) + 1), zI 1 q, zX 4 100 0, zB 5 false, zI 6 k], [(100, .box 38 [cI 0, cI 0])]⟩) aA rfl ?_
 refine zc hG [(13, 2, .elem [.i (tensL.getD (0 + (k : Int).toNat * 1) 0)])] [1, 0, 1, 1, 1, 1, 1, 1, 1, 1] ((decide ((((w + (Int.tdiv p 1000000)) - 1) + 1 : Int) < (IntKind.wrap .i64 (0 - (Int.tdiv 1000000000000000 (tensL.getD (0 + (k : Int).toNat * 1) 0)))))) || (decide ((((w + (Int.tdiv p 1000000)) - 1) + 1 : Int) > (Int.tdiv 1000000000000000 (tensL.getD (0 + (k : Int).toNat * 1) 0))))) (aB (by intros; first | omega | decide | exact aC (by omega) (by omega) | exact ⟨by omega, aC (by omega) (by omega)⟩ | exact ⟨by omega, by show _ < ((7 : Nat) : Int); omega⟩ | (simp only [e0]; first | exact aC (by omega) (by omega) | exact ⟨hmo.1, aC (by omega) (by omega)⟩ | omega) : (0 : Int) ≤ k ∧ k < ((7 : Nat) : Int)) (aB (by intros; exact dV 0 (by show _ < 7; omega) : (tensL.map (Value.int .i64) : List Value)[0 + (k : Int).toNat * 1]? = some (.int .i64 (tensL.getD (0 + (k : Int).toNat * 1) 0))) (aD (by intros; first | omega | decide | exact aC (by omega) (by omega) | exact ⟨by omega, aC (by omega) (by omega)⟩ | exact ⟨by omega, by show _ < ((7 : Nat) : Int); omega⟩ | (simp only [e0]; first | exact aC (by omega) (by omega) | exact ⟨hmo.1, aC (by omega) (by omega)⟩ | omega) : (tensL.getD (0 + (k : Int).toNat * 1) 0) ≠ (0 : Int) ∧ inR (Int.tdiv 1000000000000000 (tensL.getD (0 + (k : Int).toNat * 1) 0)))))) (fun hc5 => ?_) (fun hc5 => ?_)
 (try simp only [blS] at hc5)
 simp only [e0, hwr] at hc5
 refine zR hG [] [] (y4) [] aA ?_ ?_
 obtain ⟨g1, g2, g3⟩ := iQ hk0 hk6 hq hq1 hq2 (by omega) hsg
 obtain ⟨rfl, rfl, rfl⟩ := w8 hj hk0 hk6 g2 g1 (g3 hc5)
 rfl
 rfl
 (try simp only [blS] at hc5)
 simp only [e0, hwr] at hc5
 have hww := hws (by omega)
 refine zC hG [(16, 3, .elem [.i (tensL.getD (0 + (k : Int).toNat * 1) 0)]), (17, 1, kB (decide ((-1000000000000000 : Int) ≤ (((((w + (Int.tdiv p 1000000)) - 1) + 1) * (tensL.getD (0 + (k : Int).toNat * 1) 0)) + q)) && decide ((((((w + (Int.tdiv p 1000000)) - 1) + 1) * (tensL.getD (0 + (k : Int).toNat * 1) 0)) + q) ≤ (1000000000000000 : Int))))] [1, 0, 1, 1, 1, 1, 1, 1, 1, 1, 1, 1] (!(decide ((-1000000000000000 : Int) ≤ (((((w + (Int.tdiv p 1000000)) - 1) + 1) * (tensL.getD (0 + (k : Int).toNat * 1) 0)) + q)) && decide ((((((w + (Int.tdiv p 1000000)) - 1) + 1) * (tensL.getD (0 + (k : Int).toNat * 1) 0)) + q) ≤ (1000000000000000 : Int)))) (⟨[zX 4 100 0, zB 5 false, zI 6 k, zI 8 (((((w + (Int.tdiv p 1000000)) - 1) + 1) * (tensL.getD (0 + (k : Int).toNat * 1) 0)) + q)], [(100, .box 38 [cI 0, cI 0])]⟩) (aB (by intros; first | omega | decide | exact aC (by omega) (by omega) | exact ⟨by omega, aC (by omega) (by omega)⟩ | exact ⟨by omega, by show _ < ((7 : Nat) : Int); omega⟩ | (simp only [e0]; first | exact aC (by omega) (by omega) | exact ⟨hmo.1, aC (by omega) (by omega)⟩ | omega) : (0 : Int) ≤ k ∧ k < ((7 : Nat) : Int)) (aB (by intros; exact dV 0 (by show _ < 7; omega) : (tensL.map (Value.int .i64) : List Value)[0 + (k : Int).toNat * 1]? = some (.int .i64 (tensL.getD (0 + (k : Int).toNat * 1) 0))) (aB (by intros; first | omega | decide | exact aC (by omega) (by omega) | exact ⟨by omega, aC (by omega) (by omega)⟩ | exact ⟨by omega, by show _ < ((7 : Nat) : Int); omega⟩ | (simp only [e0]; first | exact aC (by omega) (by omega) | exact ⟨hmo.1, aC (by omega) (by omega)⟩ | omega) : inR ((((w + (Int.tdiv p 1000000)) - 1) + 1) * (tensL.getD (0 + (k : Int).toNat * 1) 0))) (aB (by intros; first | omega | decide | exact aC (by omega) (by omega) | exact ⟨by omega, aC (by omega) (by omega)⟩ | exact ⟨by omega, by show _ < ((7 : Nat) : Int); omega⟩ | (simp only [e0]; first | exact aC (by omega) (by omega) | exact ⟨hmo.1, aC (by omega) (by omega)⟩ | omega) : inR (((((w + (Int.tdiv p 1000000)) - 1) + 1) * (tensL.getD (0 + (k : Int).toNat * 1) 0)) + q)) (aD (eV (((((w + (Int.tdiv p 1000000)) - 1) + 1) * (tensL.getD (0 + (k : Int).toNat * 1) 0)) + q) : SpG (gT m) _ _ _ _ _)))))) (fun hc6 => ?_) (fun hc6 => ?_)
 (try simp only [blS] at hc6)
 simp only [e0] at hc6
 refine zR hG [] [] (y4) [] aA ?_ ?_
 obtain ⟨g1, g2, g3⟩ := iQ hk0 hk6 hq hq1 hq2 (by omega) hsg
 obtain ⟨rfl, rfl, rfl⟩ := w8 hj hk0 hk6 g2 g1 (by omega)
 rfl
 rfl
 (try simp only [blS] at hc6)
 simp only [e0] at hc6
 refine zR hG [] [] (y5 (((((w + (Int.tdiv p 1000000)) - 1) + 1) * (tensL.getD (0 + (k : Int).toNat * 1) 0)) + q) k) [] aA ?_ ?_
 obtain ⟨g1, g2, g3⟩ := iQ hk0 hk6 hq hq1 hq2 (by omega) hsg
 simp only [e0]
 obtain ⟨rfl, rfl, rfl⟩ := aB2 hj (l4 hk0 hk6 g2 (by omega) (by omega)) g1
 rfl
 rfl
 (try simp only [blS] at hc2)
 refine zL hG [] [0, 0, 1, 1, 1, 1, 1, 1] (fun (zz : Int × Int) => match zz with | (q, k) => (k.toNat, ⟨[zI 0 ((w + (Int.tdiv p 1000000)) - 1), zI 1 q, zX 4 100 0, zB 5 false, zI 6 k], [(100, .box 38 [cI 0, cI 0])]⟩, 0 ≤ k ∧ k ≤ 6 ∧ cX q k = ((Int.tmod p 1000000) + 1000000) ∧ -aV k < q ∧ q < aV k ∧ isJ (1000000 * ((w + (Int.tdiv p 1000000)) - 1) + ((Int.tmod p 1000000) + 1000000)) rn rs rb ∧ ((0 ≤ ((w + (Int.tdiv p 1000000)) - 1 : Int) ∧ 0 ≤ ((Int.tmod p 1000000) + 1000000)) ∨ (((w + (Int.tdiv p 1000000)) - 1 : Int) ≤ 0 ∧ ((Int.tmod p 1000000) + 1000000) ≤ 0)) ∧ -5000000000000000 ≤ ((w + (Int.tdiv p 1000000)) - 1 : Int) ∧ ((w + (Int.tdiv p 1000000)) - 1 : Int) ≤ 5000000000000000)) ((Int.tmod p 1000000) + 1000000, 6) aA ?_ ?_
 refine ⟨by decide, by decide, Int.mul_one _, by rw [tn6]; omega, by rw [tn6]; omega, ?_, by omega, by omega, by omega⟩
 rw [show 1000000 * ((w + (Int.tdiv p 1000000)) - 1) + ((Int.tmod p 1000000) + 1000000) = 1000000 * w + p by omega]; exact h
 rintro ⟨q, k⟩ ⟨hk0, hk6, hq, hq1, hq2, hj, hsg, hw1, hw2⟩
 have hmo := oH hk0 hk6
 have e0 := tN hk0 hk6
 have htd := vS q
 have hten := gS hk0 hk6
 have hws := fun a => oO (W := (w + (Int.tdiv p 1000000)) - 1) (q := q) hk0 hk6 a
 have htl := tdiv_le q (by omega)
 have hwr := lP (x := Int.tdiv 1000000000000000 (aV k)) (by omega) (by omega)
 refine zc hG [] [1, 0] ((decide ((k : Int) > 0)) && (decide ((Int.tmod q 10 : Int) = 0))) (aD (by intros; first | omega | decide | exact aC (by omega) (by omega) | exact ⟨by omega, aC (by omega) (by omega)⟩ | exact ⟨by omega, by show _ < ((7 : Nat) : Int); omega⟩ | (simp only [e0]; first | exact aC (by omega) (by omega) | exact ⟨hmo.1, aC (by omega) (by omega)⟩ | omega) : (decide ((k : Int) > 0)) = true → 10 ≠ (0 : Int))) (fun hc8 => ?_) (fun hc8 => ?_)
 (try simp only [blS] at hc8)
 refine zD hG [] (Int.tdiv q 10, k - 1) (aB (by intros; first | omega | decide | exact aC (by omega) (by omega) | exact ⟨by omega, aC (by omega) (by omega)⟩ | exact ⟨by omega, by show _ < ((7 : Nat) : Int); omega⟩ | (simp only [e0]; first | exact aC (by omega) (by omega) | exact ⟨hmo.1, aC (by omega) (by omega)⟩ | omega) : 10 ≠ (0 : Int) ∧ inR (Int.tdiv q 10)) (aD (by intros; first | omega | decide | exact aC (by omega) (by omega) | exact ⟨by omega, aC (by omega) (by omega)⟩ | exact ⟨by omega, by show _ < ((7 : Nat) : Int); omega⟩ | (simp only [e0]; first | exact aC (by omega) (by omega) | exact ⟨hmo.1, aC (by omega) (by omega)⟩ | omega) : inR (k - 1)))) ?_ ?_
 (try dsimp only); omega
 obtain ⟨s1, s2, s3, s4, s5⟩ := uM hk0 hk6 hq hq1 hq2 (by omega) (by omega)
 exact ⟨s1, s2, s3, s4, s5, hj, hsg, hw1, hw2⟩
 (try simp only [blS] at hc8)
 refine zE hG [] (.exit 0) (⟨[zI 0 ((w + (Int.tdiv p 1000000)) - 1), zI 1 q, zX 4 100 0, zB 5 false, zI 6 k], [(100, .box 38 [cI 0, cI 0])]⟩) aA rfl ?_
 refine zc hG [(13, 2, .elem [.i (tensL.getD (0 + (k : Int).toNat * 1) 0)])] [1, 0, 1, 1, 1, 1, 1, 1, 1, 1] ((decide (((w + (Int.tdiv p 1000000)) - 1 : Int) < (IntKind.wrap .i64 (0 - (Int.tdiv 1000000000000000 (tensL.getD (0 + (k : Int).toNat * 1) 0)))))) || (decide (((w + (Int.tdiv p 1000000)) - 1 : Int) > (Int.tdiv 1000000000000000 (tensL.getD (0 + (k : Int).toNat * 1) 0))))) (aB (by intros; first | omega | decide | exact aC (by omega) (by omega) | exact ⟨by omega, aC (by omega) (by omega)⟩ | exact ⟨by omega, by show _ < ((7 : Nat) : Int); omega⟩ | (simp only [e0]; first | exact aC (by omega) (by omega) | exact ⟨hmo.1, aC (by omega) (by omega)⟩ | omega) : (0 : Int) ≤ k ∧ k < ((7 : Nat) : Int)) (aB (by intros; exact dV 0 (by show _ < 7; omega) : (tensL.map (Value.int .i64) : List Value)[0 + (k : Int).toNat * 1]? = some (.int .i64 (tensL.getD (0 + (k : Int).toNat * 1) 0))) (aD (by intros; first | omega | decide | exact aC (by omega) (by omega) | exact ⟨by omega, aC (by omega) (by omega)⟩ | exact ⟨by omega, by show _ < ((7 : Nat) : Int); omega⟩ | (simp only [e0]; first | exact aC (by omega) (by omega) | exact ⟨hmo.1, aC (by omega) (by omega)⟩ | omega) : (tensL.getD (0 + (k : Int).toNat * 1) 0) ≠ (0 : Int) ∧ inR (Int.tdiv 1000000000000000 (tensL.getD (0 + (k : Int).toNat * 1) 0)))))) (fun hc9 => ?_) (fun hc9 => ?_)
 (try simp only [blS] at hc9)
 simp only [e0, hwr] at hc9
 refine zR hG [] [] (y4) [] aA ?_ ?_
 obtain ⟨g1, g2, g3⟩ := iQ hk0 hk6 hq hq1 hq2 (by omega) hsg
 obtain ⟨rfl, rfl, rfl⟩ := w8 hj hk0 hk6 g2 g1 (g3 hc9)
 rfl
 rfl
 (try simp only [blS] at hc9)
 simp only [e0, hwr] at hc9
 have hww := hws (by omega)
 refine zC hG [(16, 3, .elem [.i (tensL.getD (0 + (k : Int).toNat * 1) 0)]), (17, 1, kB (decide ((-1000000000000000 : Int) ≤ ((((w + (Int.tdiv p 1000000)) - 1) * (tensL.getD (0 + (k : Int).toNat * 1) 0)) + q)) && decide (((((w + (Int.tdiv p 1000000)) - 1) * (tensL.getD (0 + (k : Int).toNat * 1) 0)) + q) ≤ (1000000000000000 : Int))))] [1, 0, 1, 1, 1, 1, 1, 1, 1, 1, 1, 1] (!(decide ((-1000000000000000 : Int) ≤ ((((w + (Int.tdiv p 1000000)) - 1) * (tensL.getD (0 + (k : Int).toNat * 1) 0)) + q)) && decide (((((w + (Int.tdiv p 1000000)) - 1) * (tensL.getD (0 + (k : Int).toNat * 1) 0)) + q) ≤ (1000000000000000 : Int)))) (⟨[zX 4 100 0, zB 5 false, zI 6 k, zI 8 ((((w + (Int.tdiv p 1000000)) - 1) * (tensL.getD (0 + (k : Int).toNat * 1) 0)) + q)], [(100, .box 38 [cI 0, cI 0])]⟩) (aB (by intros; first | omega | decide | exact aC (by omega) (by omega) | exact ⟨by omega, aC (by omega) (by omega)⟩ | exact ⟨by omega, by show _ < ((7 : Nat) : Int); omega⟩ | (simp only [e0]; first | exact aC (by omega) (by omega) | exact ⟨hmo.1, aC (by omega) (by omega)⟩ | omega) : (0 : Int) ≤ k ∧ k < ((7 : Nat) : Int)) (aB (by intros; exact dV 0 (by show _ < 7; omega) : (tensL.map (Value.int .i64) : List Value)[0 + (k : Int).toNat * 1]? = some (.int .i64 (tensL.getD (0 + (k : Int).toNat * 1) 0))) (aB (by intros; first | omega | decide | exact aC (by omega) (by omega) | exact ⟨by omega, aC (by omega) (by omega)⟩ | exact ⟨by omega, by show _ < ((7 : Nat) : Int); omega⟩ | (simp only [e0]; first | exact aC (by omega) (by omega) | exact ⟨hmo.1, aC (by omega) (by omega)⟩ | omega) : inR (((w + (Int.tdiv p 1000000)) - 1) * (tensL.getD (0 + (k : Int).toNat * 1) 0))) (aB (by intros; first | omega | decide | exact aC (by omega) (by omega) | exact ⟨by omega, aC (by omega) (by omega)⟩ | exact ⟨by omega, by show _ < ((7 : Nat) : Int); omega⟩ | (simp only [e0]; first | exact aC (by omega) (by omega) | exact ⟨hmo.1, aC (by omega) (by omega)⟩ | omega) : inR ((((w + (Int.tdiv p 1000000)) - 1) * (tensL.getD (0 + (k : Int).toNat * 1) 0)) + q)) (aD (eV ((((w + (Int.tdiv p 1000000)) - 1) * (tensL.getD (0 + (k : Int).toNat * 1) 0)) + q) : SpG (gT m) _ _ _ _ _)))))) (fun hc10 => ?_) (fun hc10 => ?_)
 (try simp only [blS] at hc10)
 simp only [e0] at hc10
 refine zR hG [] [] (y4) [] aA ?_ ?_
 obtain ⟨g1, g2, g3⟩ := iQ hk0 hk6 hq hq1 hq2 (by omega) hsg
 obtain ⟨rfl, rfl, rfl⟩ := w8 hj hk0 hk6 g2 g1 (by omega)
 rfl
 rfl
 (try simp only [blS] at hc10)
 simp only [e0] at hc10
 refine zR hG [] [] (y5 ((((w + (Int.tdiv p 1000000)) - 1) * (tensL.getD (0 + (k : Int).toNat * 1) 0)) + q) k) [] aA ?_ ?_
 obtain ⟨g1, g2, g3⟩ := iQ hk0 hk6 hq hq1 hq2 (by omega) hsg
 simp only [e0]
 obtain ⟨rfl, rfl, rfl⟩ := aB2 hj (l4 hk0 hk6 g2 (by omega) (by omega)) g1
 rfl
 rfl
 (try simp only [blS] at hc1)
 refine zc hG [] [1, 0, 1, 1, 1, 1] ((decide ((w + (Int.tdiv p 1000000) : Int) < 0)) && (decide ((Int.tmod p 1000000 : Int) > 0))) aA (fun hc11 => ?_) (fun hc11 => ?_)
 (try simp only [blS] at hc11)
 refine zL hG [] [0, 0, 1, 1, 1, 1, 1, 1] (fun (zz : Int × Int) => match zz with | (q, k) => (k.toNat, ⟨[zI 0 ((w + (Int.tdiv p 1000000)) + 1), zI 1 q, zX 4 100 0, zB 5 false, zI 6 k], [(100, .box 38 [cI 0, cI 0])]⟩, 0 ≤ k ∧ k ≤ 6 ∧ cX q k = ((Int.tmod p 1000000) - 1000000) ∧ -aV k < q ∧ q < aV k ∧ isJ (1000000 * ((w + (Int.tdiv p 1000000)) + 1) + ((Int.tmod p 1000000) - 1000000)) rn rs rb ∧ ((0 ≤ ((w + (Int.tdiv p 1000000)) + 1 : Int) ∧ 0 ≤ ((Int.tmod p 1000000) - 1000000)) ∨ (((w + (Int.tdiv p 1000000)) + 1 : Int) ≤ 0 ∧ ((Int.tmod p 1000000) - 1000000) ≤ 0)) ∧ -5000000000000000 ≤ ((w + (Int.tdiv p 1000000)) + 1 : Int) ∧ ((w + (Int.tdiv p 1000000)) + 1 : Int) ≤ 5000000000000000)) ((Int.tmod p 1000000) - 1000000, 6) (aB (by intros; first | omega | decide | exact aC (by omega) (by omega) | exact ⟨by omega, aC (by omega) (by omega)⟩ | exact ⟨by omega, by show _ < ((7 : Nat) : Int); omega⟩ | (simp only [e0]; first | exact aC (by omega) (by omega) | exact ⟨hmo.1, aC (by omega) (by omega)⟩ | omega) : inR ((w + (Int.tdiv p 1000000)) + 1)) (aD (by intros; first | omega | decide | exact aC (by omega) (by omega) | exact ⟨by omega, aC (by omega) (by omega)⟩ | exact ⟨by omega, by show _ < ((7 : Nat) : Int); omega⟩ | (simp only [e0]; first | exact aC (by omega) (by omega) | exact ⟨hmo.1, aC (by omega) (by omega)⟩ | omega) : inR ((Int.tmod p 1000000) - 1000000)))) ?_ ?_
 refine ⟨by decide, by decide, Int.mul_one _, by rw [tn6]; omega, by rw [tn6]; omega, ?_, by omega, by omega, by omega⟩
 rw [show 1000000 * ((w + (Int.tdiv p 1000000)) + 1) + ((Int.tmod p 1000000) - 1000000) = 1000000 * w + p by omega]; exact h
 rintro ⟨q, k⟩ ⟨hk0, hk6, hq, hq1, hq2, hj, hsg, hw1, hw2⟩
 have hmo := oH hk0 hk6
 have e0 := tN hk0 hk6
 have htd := vS q
 have hten := gS hk0 hk6
 have hws := fun a => oO (W := (w + (Int.tdiv p 1000000)) + 1) (q := q) hk0 hk6 a
 have htl := tdiv_le q (by omega)
 have hwr := lP (x := Int.tdiv 1000000000000000 (aV k)) (by omega) (by omega)
 refine zc hG [] [1, 0] ((decide ((k : Int) > 0)) && (decide ((Int.tmod q 10 : Int) = 0))) (aD (by intros; first | omega | decide | exact aC (by omega) (by omega) | exact ⟨by omega, aC (by omega) (by omega)⟩ | exact ⟨by omega, by show _ < ((7 : Nat) : Int); omega⟩ | (simp only [e0]; first | exact aC (by omega) (by omega) | exact ⟨hmo.1, aC (by omega) (by omega)⟩ | omega) : (decide ((k : Int) > 0)) = true → 10 ≠ (0 : Int))) (fun hc13 => ?_) (fun hc13 => ?_)
 (try simp only [blS] at hc13)
 refine zD hG [] (Int.tdiv q 10, k - 1) (aB (by intros; first | omega | decide | exact aC (by omega) (by omega) | exact ⟨by omega, aC (by omega) (by omega)⟩ | exact ⟨by omega, by show _ < ((7 : Nat) : Int); omega⟩ | (simp only [e0]; first | exact aC (by omega) (by omega) | exact ⟨hmo.1, aC (by omega) (by omega)⟩ | omega) : 10 ≠ (0 : Int) ∧ inR (Int.tdiv q 10)) (aD (by intros; first | omega | decide | exact aC (by omega) (by omega) | exact ⟨by omega, aC (by omega) (by omega)⟩ | exact ⟨by omega, by show _ < ((7 : Nat) : Int); omega⟩ | (simp only [e0]; first | exact aC (by omega) (by omega) | exact ⟨hmo.1, aC (by omega) (by omega)⟩ | omega) : inR (k - 1)))) ?_ ?_
 (try dsimp only); omega
 obtain ⟨s1, s2, s3, s4, s5⟩ := uM hk0 hk6 hq hq1 hq2 (by omega) (by omega)
 exact ⟨s1, s2, s3, s4, s5, hj, hsg, hw1, hw2⟩
 (try simp only [blS] at hc13)
 refine zE hG [] (.exit 0) (⟨[zI 0 ((w + (Int.tdiv p 1000000)) + 1), zI 1 q, zX 4 100 0, zB 5 false, zI 6 k], [(100, .box 38 [cI 0, cI 0])]⟩) aA rfl ?_
 refine zc hG [(13, 2, .elem [.i (tensL.getD (0 + (k : Int).toNat * 1) 0)])] [1, 0, 1, 1, 1, 1, 1, 1, 1, 1] ((decide (((w + (Int.tdiv p 1000000)) + 1 : Int) < (IntKind.wrap .i64 (0 - (Int.tdiv 1000000000000000 (tensL.getD (0 + (k : Int).toNat * 1) 0)))))) || (decide (((w + (Int.tdiv p 1000000)) + 1 : Int) > (Int.tdiv 1000000000000000 (tensL.getD (0 + (k : Int).toNat * 1) 0))))) (aB (by intros; first | omega | decide | exact aC (by omega) (by omega) | exact ⟨by omega, aC (by omega) (by omega)⟩ | exact ⟨by omega, by show _ < ((7 : Nat) : Int); omega⟩ | (simp only [e0]; first | exact aC (by omega) (by omega) | exact ⟨hmo.1, aC (by omega) (by omega)⟩ | omega) : (0 : Int) ≤ k ∧ k < ((7 : Nat) : Int)) (aB (by intros; exact dV 0 (by show _ < 7; omega) : (tensL.map (Value.int .i64) : List Value)[0 + (k : Int).toNat * 1]? = some (.int .i64 (tensL.getD (0 + (k : Int).toNat * 1) 0))) (aD (by intros; first | omega | decide | exact aC (by omega) (by omega) | exact ⟨by omega, aC (by omega) (by omega)⟩ | exact ⟨by omega, by show _ < ((7 : Nat) : Int); omega⟩ | (simp only [e0]; first | exact aC (by omega) (by omega) | exact ⟨hmo.1, aC (by omega) (by omega)⟩ | omega) : (tensL.getD (0 + (k : Int).toNat * 1) 0) ≠ (0 : Int) ∧ inR (Int.tdiv 1000000000000000 (tensL.getD (0 + (k : Int).toNat * 1) 0)))))) (fun hc14 => ?_) (fun hc14 => ?_)
 (try simp only [blS] at hc14)
 simp only [e0, hwr] at hc14
 refine zR hG [] [] (y4) [] aA ?_ ?_
 obtain ⟨g1, g2, g3⟩ := iQ hk0 hk6 hq hq1 hq2 (by omega) hsg
 obtain ⟨rfl, rfl, rfl⟩ := w8 hj hk0 hk6 g2 g1 (g3 hc14)
 rfl
 rfl
 (try simp only [blS] at hc14)
 simp only [e0, hwr] at hc14
 have hww := hws (by omega)
 refine zC hG [(16, 3, .elem [.i (tensL.getD (0 + (k : Int).toNat * 1) 0)]), (17, 1, kB (decide ((-1000000000000000 : Int) ≤ ((((w + (Int.tdiv p 1000000)) + 1) * (tensL.getD (0 + (k : Int).toNat * 1) 0)) + q)) && decide (((((w + (Int.tdiv p 1000000)) + 1) * (tensL.getD (0 + (k : Int).toNat * 1) 0)) + q) ≤ (1000000000000000 : Int))))] [1, 0, 1, 1, 1, 1, 1, 1, 1, 1, 1, 1] (!(decide ((-1000000000000000 : Int) ≤ ((((w + (Int.tdiv p 1000000)) + 1) * (tensL.getD (0 + (k : Int).toNat * 1) 0)) + q)) && decide (((((w + (Int.tdiv p 1000000)) + 1) * (tensL.getD (0 + (k : Int).toNat * 1) 0)) + q) ≤ (1000000000000000 : Int)))) (⟨[zX 4 100 0, zB 5 false, zI 6 k, zI 8 ((((w + (Int.tdiv p 1000000)) + 1) * (tensL.getD (0 + (k : Int).toNat * 1) 0)) + q)], [(100, .box 38 [cI 0, cI 0])]⟩) (aB (by intros; first | omega | decide | exact aC (by omega) (by omega) | exact ⟨by omega, aC (by omega) (by omega)⟩ | exact ⟨by omega, by show _ < ((7 : Nat) : Int); omega⟩ | (simp only [e0]; first | exact aC (by omega) (by omega) | exact ⟨hmo.1, aC (by omega) (by omega)⟩ | omega) : (0 : Int) ≤ k ∧ k < ((7 : Nat) : Int)) (aB (by intros; exact dV 0 (by show _ < 7; omega) : (tensL.map (Value.int .i64) : List Value)[0 + (k : Int).toNat * 1]? = some (.int .i64 (tensL.getD (0 + (k : Int).toNat * 1) 0))) (aB (by intros; first | omega | decide | exact aC (by omega) (by omega) | exact ⟨by omega, aC (by omega) (by omega)⟩ | exact ⟨by omega, by show _ < ((7 : Nat) : Int); omega⟩ | (simp only [e0]; first | exact aC (by omega) (by omega) | exact ⟨hmo.1, aC (by omega) (by omega)⟩ | omega) : inR (((w + (Int.tdiv p 1000000)) + 1) * (tensL.getD (0 + (k : Int).toNat * 1) 0))) (aB (by intros; first | omega | decide | exact aC (by omega) (by omega) | exact ⟨by omega, aC (by omega) (by omega)⟩ | exact ⟨by omega, by show _ < ((7 : Nat) : Int); omega⟩ | (simp only [e0]; first | exact aC (by omega) (by omega) | exact ⟨hmo.1, aC (by omega) (by omega)⟩ | omega) : inR ((((w + (Int.tdiv p 1000000)) + 1) * (tensL.getD (0 + (k : Int).toNat * 1) 0)) + q)) (aD (eV ((((w + (Int.tdiv p 1000000)) + 1) * (tensL.getD (0 + (k : Int).toNat * 1) 0)) + q) : SpG (gT m) _ _ _ _ _)))))) (fun hc15 => ?_) (fun hc15 => ?_)
 (try simp only [blS] at hc15)
 simp only [e0] at hc15
 refine zR hG [] [] (y4) [] aA ?_ ?_
 obtain ⟨g1, g2, g3⟩ := iQ hk0 hk6 hq hq1 hq2 (by omega) hsg
 obtain ⟨rfl, rfl, rfl⟩ := w8 hj hk0 hk6 g2 g1 (by omega)
 rfl
 rfl
 (try simp only [blS] at hc15)
 simp only [e0] at hc15
 refine zR hG [] [] (y5 ((((w + (Int.tdiv p 1000000)) + 1) * (tensL.getD (0 + (k : Int).toNat * 1) 0)) + q) k) [] aA ?_ ?_
 obtain ⟨g1, g2, g3⟩ := iQ hk0 hk6 hq hq1 hq2 (by omega) hsg
 simp only [e0]
 obtain ⟨rfl, rfl, rfl⟩ := aB2 hj (l4 hk0 hk6 g2 (by omega) (by omega)) g1
 rfl
 rfl
 (try simp only [blS] at hc11)
 refine zL hG [] [0, 0, 1, 1, 1, 1, 1, 1] (fun (zz : Int × Int) => match zz with | (q, k) => (k.toNat, ⟨[zI 0 (w + (Int.tdiv p 1000000)), zI 1 q, zX 4 100 0, zB 5 false, zI 6 k], [(100, .box 38 [cI 0, cI 0])]⟩, 0 ≤ k ∧ k ≤ 6 ∧ cX q k = (Int.tmod p 1000000) ∧ -aV k < q ∧ q < aV k ∧ isJ (1000000 * (w + (Int.tdiv p 1000000)) + (Int.tmod p 1000000)) rn rs rb ∧ ((0 ≤ (w + (Int.tdiv p 1000000) : Int) ∧ 0 ≤ (Int.tmod p 1000000)) ∨ ((w + (Int.tdiv p 1000000) : Int) ≤ 0 ∧ (Int.tmod p 1000000) ≤ 0)) ∧ -5000000000000000 ≤ (w + (Int.tdiv p 1000000) : Int) ∧ (w + (Int.tdiv p 1000000) : Int) ≤ 5000000000000000)) (Int.tmod p 1000000, 6) aA ?_ ?_
 refine ⟨by decide, by decide, Int.mul_one _, by rw [tn6]; omega, by rw [tn6]; omega, ?_, by omega, by omega, by omega⟩
 rw [show 1000000 * (w + (Int.tdiv p 1000000)) + (Int.tmod p 1000000) = 1000000 * w + p by omega]; exact h
 rintro ⟨q, k⟩ ⟨hk0, hk6, hq, hq1, hq2, hj, hsg, hw1, hw2⟩
 have hmo := oH hk0 hk6
 have e0 := tN hk0 hk6
 have htd := vS q
 have hten := gS hk0 hk6
 have hws := fun a => oO (W := w + (Int.tdiv p 1000000)) (q := q) hk0 hk6 a
 have htl := tdiv_le q (by omega)
 have hwr := lP (x := Int.tdiv 1000000000000000 (aV k)) (by omega) (by omega)
 refine zc hG [] [1, 0] ((decide ((k : Int) > 0)) && (decide ((Int.tmod q 10 : Int) = 0))) (aD (by intros; first | omega | decide | exact aC (by omega) (by omega) | exact ⟨by omega, aC (by omega) (by omega)⟩ | exact ⟨by omega, by show _ < ((7 : Nat) : Int); omega⟩ | (simp only [e0]; first | exact aC (by omega) (by omega) | exact ⟨hmo.1, aC (by omega) (by omega)⟩ | omega) : (decide ((k : Int) > 0)) = true → 10 ≠ (0 : Int))) (fun hc17 => ?_) (fun hc17 => ?_)
 (try simp only [blS] at hc17)
 refine zD hG [] (Int.tdiv q 10, k - 1) (aB (by intros; first | omega | decide | exact aC (by omega) (by omega) | exact ⟨by omega, aC (by omega) (by omega)⟩ | exact ⟨by omega, by show _ < ((7 : Nat) : Int); omega⟩ | (simp only [e0]; first | exact aC (by omega) (by omega) | exact ⟨hmo.1, aC (by omega) (by omega)⟩ | omega) : 10 ≠ (0 : Int) ∧ inR (Int.tdiv q 10)) (aD (by intros; first | omega | decide | exact aC (by omega) (by omega) | exact ⟨by omega, aC (by omega) (by omega)⟩ | exact ⟨by omega, by show _ < ((7 : Nat) : Int); omega⟩ | (simp only [e0]; first | exact aC (by omega) (by omega) | exact ⟨hmo.1, aC (by omega) (by omega)⟩ | omega) : inR (k - 1)))) ?_ ?_
 (try dsimp only); omega
 obtain ⟨s1, s2, s3, s4, s5⟩ := uM hk0 hk6 hq hq1 hq2 (by omega) (by omega)
 exact ⟨s1, s2, s3, s4, s5, hj, hsg, hw1, hw2⟩
 (try simp only [blS] at hc17)
 refine zE hG [] (.exit 0) (⟨[zI 0 (w + (Int.tdiv p 1000000)), zI 1 q, zX 4 100 0, zB 5 false, zI 6 k], [(100, .box 38 [cI 0, cI 0])]⟩) aA rfl ?_
 refine zc hG [(13, 2, .elem [.i (tensL.getD (0 + (k : Int).toNat * 1) 0)])] [1, 0, 1, 1, 1, 1, 1, 1, 1, 1] ((decide ((w + (Int.tdiv p 1000000) : Int) < (IntKind.wrap .i64 (0 - (Int.tdiv 1000000000000000 (tensL.getD (0 + (k : Int).toNat * 1) 0)))))) || (decide ((w + (Int.tdiv p 1000000) : Int) > (Int.tdiv 1000000000000000 (tensL.getD (0 + (k : Int).toNat * 1) 0))))) (aB (by intros; first | omega | decide | exact aC (by omega) (by omega) | exact ⟨by omega, aC (by omega) (by omega)⟩ | exact ⟨by omega, by show _ < ((7 : Nat) : Int); omega⟩ | (simp only [e0]; first | exact aC (by omega) (by omega) | exact ⟨hmo.1, aC (by omega) (by omega)⟩ | omega) : (0 : Int) ≤ k ∧ k < ((7 : Nat) : Int)) (aB (by intros; exact dV 0 (by show _ < 7; omega) : (tensL.map (Value.int .i64) : List Value)[0 + (k : Int).toNat * 1]? = some (.int .i64 (tensL.getD (0 + (k : Int).toNat * 1) 0))) (aD (by intros; first | omega | decide | exact aC (by omega) (by omega) | exact ⟨by omega, aC (by omega) (by omega)⟩ | exact ⟨by omega, by show _ < ((7 : Nat) : Int); omega⟩ | (simp only [e0]; first | exact aC (by omega) (by omega) | exact ⟨hmo.1, aC (by omega) (by omega)⟩ | omega) : (tensL.getD (0 + (k : Int).toNat * 1) 0) ≠ (0 : Int) ∧ inR (Int.tdiv 1000000000000000 (tensL.getD (0 + (k : Int).toNat * 1) 0)))))) (fun hc18 => ?_) (fun hc18 => ?_)
 (try simp only [blS] at hc18)
 simp only [e0, hwr] at hc18
 refine zR hG [] [] (y4) [] aA ?_ ?_
 obtain ⟨g1, g2, g3⟩ := iQ hk0 hk6 hq hq1 hq2 (by omega) hsg
 obtain ⟨rfl, rfl, rfl⟩ := w8 hj hk0 hk6 g2 g1 (g3 hc18)
 rfl
 rfl
 (try simp only [blS] at hc18)
 simp only [e0, hwr] at hc18
 have hww := hws (by omega)
 refine zC hG [(16, 3, .elem [.i (tensL.getD (0 + (k : Int).toNat * 1) 0)]), (17, 1, kB (decide ((-1000000000000000 : Int) ≤ (((w + (Int.tdiv p 1000000)) * (tensL.getD (0 + (k : Int).toNat * 1) 0)) + q)) && decide ((((w + (Int.tdiv p 1000000)) * (tensL.getD (0 + (k : Int).toNat * 1) 0)) + q) ≤ (1000000000000000 : Int))))] [1, 0, 1, 1, 1, 1, 1, 1, 1, 1, 1, 1] (!(decide ((-1000000000000000 : Int) ≤ (((w + (Int.tdiv p 1000000)) * (tensL.getD (0 + (k : Int).toNat * 1) 0)) + q)) && decide ((((w + (Int.tdiv p 1000000)) * (tensL.getD (0 + (k : Int).toNat * 1) 0)) + q) ≤ (1000000000000000 : Int)))) (⟨[zX 4 100 0, zB 5 false, zI 6 k, zI 8 (((w + (Int.tdiv p 1000000)) * (tensL.getD (0 + (k : Int).toNat * 1) 0)) + q)], [(100, .box 38 [cI 0, cI 0])]⟩) (aB (by intros; first | omega | decide | exact aC (by omega) (by omega) | exact ⟨by omega, aC (by omega) (by omega)⟩ | exact ⟨by omega, by show _ < ((7 : Nat) : Int); omega⟩ | (simp only [e0]; first | exact aC (by omega) (by omega) | exact ⟨hmo.1, aC (by omega) (by omega)⟩ | omega) : (0 : Int) ≤ k ∧ k < ((7 : Nat) : Int)) (aB (by intros; exact dV 0 (by show _ < 7; omega) : (tensL.map (Value.int .i64) : List Value)[0 + (k : Int).toNat * 1]? = some (.int .i64 (tensL.getD (0 + (k : Int).toNat * 1) 0))) (aB (by intros; first | omega | decide | exact aC (by omega) (by omega) | exact ⟨by omega, aC (by omega) (by omega)⟩ | exact ⟨by omega, by show _ < ((7 : Nat) : Int); omega⟩ | (simp only [e0]; first | exact aC (by omega) (by omega) | exact ⟨hmo.1, aC (by omega) (by omega)⟩ | omega) : inR ((w + (Int.tdiv p 1000000)) * (tensL.getD (0 + (k : Int).toNat * 1) 0))) (aB (by intros; first | omega | decide | exact aC (by omega) (by omega) | exact ⟨by omega, aC (by omega) (by omega)⟩ | exact ⟨by omega, by show _ < ((7 : Nat) : Int); omega⟩ | (simp only [e0]; first | exact aC (by omega) (by omega) | exact ⟨hmo.1, aC (by omega) (by omega)⟩ | omega) : inR (((w + (Int.tdiv p 1000000)) * (tensL.getD (0 + (k : Int).toNat * 1) 0)) + q)) (aD (eV (((w + (Int.tdiv p 1000000)) * (tensL.getD (0 + (k : Int).toNat * 1) 0)) + q) : SpG (gT m) _ _ _ _ _)))))) (fun hc19 => ?_) (fun hc19 => ?_)
 (try simp only [blS] at hc19)
 simp only [e0] at hc19
 refine zR hG [] [] (y4) [] aA ?_ ?_
 obtain ⟨g1, g2, g3⟩ := iQ hk0 hk6 hq hq1 hq2 (by omega) hsg
 obtain ⟨rfl, rfl, rfl⟩ := w8 hj hk0 hk6 g2 g1 (by omega)
 rfl
 rfl
 (try simp only [blS] at hc19)
 simp only [e0] at hc19
 refine zR hG [] [] (y5 (((w + (Int.tdiv p 1000000)) * (tensL.getD (0 + (k : Int).toNat * 1) 0)) + q) k) [] aA ?_ ?_
 obtain ⟨g1, g2, g3⟩ := iQ hk0 hk6 hq hq1 hq2 (by omega) hsg
 simp only [e0]
 obtain ⟨rfl, rfl, rfl⟩ := aB2 hj (l4 hk0 hk6 g2 (by omega) (by omega)) g1
 rfl
 rfl
theorem aEW (a b c d rn rs : Int) (rb : Bool) (h1 : cD a b = true) (h2 : cD c d = true) (h : isJ (cX a b + cX c d) rn rs rb) :
  SpG (gT m) 204 [.agg [cI a, cI b], .agg [cI c, cI d]] [] (y3 rn rs rb) [] := by
 have s1 := vX h1
 have s2 := vX h2
 refine aL 29 Tryz.func204 (by kernel_rfl) fun fr hG => ?_
 exact zr hG [(1, 1, kC (y10 (spW a b) (spP a b))), (2, 1, kC (y10 (spW c d) (spP c d))), (3, 6, kC (y3 rn rs rb))] [] (aB (split_ok a b (by assumption) : SpG (gT m) _ _ _ _ _) (aB (split_ok c d (by assumption) : SpG (gT m) _ _ _ _ _) (aB (by intros; first | omega | decide | exact aC (by omega) (by omega) : inR ((spW a b) + (spW c d))) (aB (by intros; first | omega | decide | exact aC (by omega) (by omega) : inR ((spP a b) + (spP c d))) (aD (aAW ((spW a b) + (spW c d)) ((spP a b) + (spP c d)) rn rs rb (by omega) (by omega) (by rw [show 1000000 * ((spW a b) + (spW c d)) + ((spP a b) + (spP c d)) = cX a b + cX c d by omega]; exact h) : SpG (gT m) _ _ _ _ _))))))
end Go.Proofs.YtdejnaokkdndeaaGreatDoor
namespace Go.Proofs.YtdejnaokkdndeaaGreatDoor
open Go.RowKit Go.V
open Go.Eng (inR byteAt u8 aU)
variable {m : Int}
theorem aEF {n : Int} (h : -1000000000000000 ≤ n ∧ n ≤ 1000000000000000) : fR (decide (n < 0)) n.natAbs 0 = n ∧ fQ n.natAbs 0 = 0 ∧ dP n.natAbs 0 = true :=
 aH0 (l4 (Int.le_refl 0) (by decide) (.inl rfl) h.1 h.2)
theorem aIM (n : Int) (h : -1000000000000000 ≤ n ∧ n ≤ 1000000000000000) :
  SpG (gT m) 268 [.c (cI n)] [] (.tup [(true, [cI n, cI 0]), (false, [cB true])]) [] := by
 obtain ⟨e1, e2, e3⟩ := aEF h
 refine aL 8 Tryz.func268 (by kernel_rfl) fun fr hG => ?_
 refine zR hG [(1, 1, kC (y3 (fR (decide (n < 0)) n.natAbs 0) (fQ n.natAbs 0) (dP n.natAbs 0)))] [] (y3 (fR (decide (n < 0)) n.natAbs 0) (fQ n.natAbs 0) (dP n.natAbs 0)) [] (aD (aAV n 0 (by omega) (aC (by omega) (by omega)) (by decide) (by decide) : SpG (gT m) _ _ _ _ _)) ?_ ?_
 rw [e1, e2, e3]
 rfl
end Go.Proofs.YtdejnaokkdndeaaGreatDoor
namespace Go.Proofs.YtdejnaokkdndeaaGreatDoor
open Go.RowKit Go.V
abbrev Ask := Nat → List SV → List (Nat × Ob) → Option (SV × List (Nat × Ob) × List Prop)
def vDec : SV → Option Vl
 | .agg [.d (.v (.int .i64 kd)), .d (.v (.string s)), .d (.v (.int .i64 n)), .d (.v (.int .i64 sc)), .d (.v (.int .i64 d)), .d (.v (.slice none 0 0)), .d (.v (.slice none 0 0))] => some ⟨kd, s.data.toList, n, sc, d, [], []⟩
 | _ => none
def xR : SV → Option (Int × Int)
 | .agg [.d (.v (.int .i64 n)), .d (.v (.int .i64 s))] => some (n, s)
 | _ => none
def vNil (v : Vl) : SV := .agg [cI v.kind, cS (S v.s), cI v.dn, cI v.ds, cI v.n, .d .nil, .d .nil]
def dNum (n s : Int) : SV := .agg [cI n, cI s]
def cAdd (a b c d rn rs : Int) (rb : Bool) : Prop := cD a b = true ∧ cD c d = true ∧ isJ (cX a b + cX c d) rn rs rb
def aAdd (rn rs : Int) (rb : Bool) : Ask := fun _ ins refs => match ins, refs with
 | [x, y], [] => match xR x, xR y with
  | some (a, b), some (c, d) => some (y3 rn rs rb, [], [cAdd a b c d rn rs rb])
  | _, _ => none
 | _, _ => none
section
variable {m : Int}
theorem vDec_eq {x : SV} {v : Vl} (h : vDec x = some v) : x = vNil v ∧ v.cols = [] ∧ v.rows = [] := by
 unfold vDec at h
 split at h
 simp only [Option.some.injEq] at h
 subst h
 exact ⟨by simp only [vNil, aJI]; rfl, rfl, rfl⟩
 cases h
theorem oL {x : SV} {a b : Int} (h : xR x = some (a, b)) : x = dNum a b := by
 unfold xR at h
 split at h
 simp only [Option.some.injEq, Prod.mk.injEq] at h
 obtain ⟨rfl, rfl⟩ := h
 rfl
 cases h
theorem nil1 {f : FuncId} {v : Vl} {out : SV} (hc : v.cols = []) (hr : v.rows = []) (h : V.Spec Tryz.prog (Gl (gT m)) f [yJ v] [] out []) : V.Spec Tryz.prog (Gl (gT m)) f [vNil v] [] out [] := by
 obtain ⟨kd, s, a, b, n, cols, rows⟩ := v
 cases hc; cases hr
 exact jT [[none, none, none, none, none, some 1, some 1]] h
end
def aCW : Ask := fun _ ins refs => match ins, refs with
 | [x], [] => match vDec x with
  | some v => bif kJ v && Nat.ble v.s.length 200 then some (.c (cB true), [], []) else none
  | none => none
 | _, _ => none
def aFI : Nat → Int → Int → Int × Int
 | 0, n, s => (n, s)
 | f + 1, n, s => bif decide (0 < s) && decide (n % 10 = 0) then aFI f (n / 10) (s - 1) else (n, s)
def aAddC : Ask := fun _ ins refs => match ins, refs with
 | [x, y], [] => match xR x, xR y with
  | some (a, b), some (c, d) => match aFI 6 (cX a b + cX c d) 6 with
   | (rn, rs) => bif cD a b && cD c d && cD rn rs && decide (cX rn rs = cX a b + cX c d) then some (y5 rn rs, [], []) else none
  | _, _ => none
 | _, _ => none
def aCmpC : Ask := fun _ ins refs => match ins, refs with
 | [x, y], [] => match xR x, xR y with
  | some (a, b), some (c, d) => bif cD a b && cD c d then some (.c (cI (aAX a b c d)), [], []) else none
  | _, _ => none
 | _, _ => none
def aOne (ins0 : List SV) (out : SV) : Ask := fun _ ins refs => match refs with
 | [] => some (out, [], [ins = ins0])
 | _ => none
section
variable {m : Int}
theorem yR {v : Vl} (h1 : v.s.length ≤ 200) (h2 : v.cols = []) (h3 : v.rows = []) : v.fit :=
 ⟨(by unfold maxLen; omega), (by rw [h2]; intro t ht; cases ht), (by rw [h3]; intro t ht; cases ht)⟩
def eRightC : Ent Tryz.prog (Gl (gT m)) where
 f := 20
 ask := aCW
 ok := by
  intro k ins refs post out cs h hc
  unfold aCW at h
  split at h
  split at h
  rename_i v hv
  cases hb : (kJ v && Nat.ble v.s.length 200) with
  | false => rw [hb] at h; cases h
  | true =>
   rw [hb] at h
   cases h
   obtain ⟨rfl, h1, h2⟩ := vDec_eq hv
   simp only [Bool.and_eq_true, Nat.ble_eq] at hb
   have := o5 (g := gT m) v (yR hb.2 h1 h2)
   rw [hb.1] at this
   exact nil1 h1 h2 this
  cases h
  cases h
def eAddC : Ent Tryz.prog (Gl (gT m)) where
 f := 204
 ask := aAddC
 ok := by
  intro k ins refs post out cs h hc
  unfold aAddC at h
  split at h
  split at h
  rename_i a b c d hx hy
  have e1 := oL hx; have e2 := oL hy
  subst e1; subst e2
  split at h
  rename_i rn rs hj
  cases hb : (cD a b && cD c d && cD rn rs && decide (cX rn rs = cX a b + cX c d)) with
  | false => rw [hb] at h; cases h
  | true =>
   rw [hb] at h
   cases h
   simp only [Bool.and_eq_true, decide_eq_true_eq] at hb
   obtain ⟨⟨⟨b1, b2⟩, b3⟩, b4⟩ := hb
   exact aEW a b c d rn rs true b1 b2 ⟨fun _ => ⟨b3, b4⟩, fun h => by cases h⟩
  cases h
  cases h
def eCmpC : Ent Tryz.prog (Gl (gT m)) where
 f := 208
 ask := aCmpC
 ok := by
  intro k ins refs post out cs h hc
  unfold aCmpC at h
  split at h
  split at h
  rename_i a b c d hx hy
  have e1 := oL hx; have e2 := oL hy
  subst e1; subst e2
  cases hb : (cD a b && cD c d) with
  | false => rw [hb] at h; cases h
  | true =>
   rw [hb] at h
   cases h
   simp only [Bool.and_eq_true] at hb
   exact aEV a b c d hb.1 hb.2
  cases h
  cases h
def eOne (f : FuncId) (ins0 : List SV) (out : SV) (h0 : V.Spec Tryz.prog (Gl (gT m)) f ins0 [] out []) : Ent Tryz.prog (Gl (gT m)) where
 f := f
 ask := aOne ins0 out
 ok := by
  intro k ins refs post out' cs h hc
  unfold aOne at h
  split at h
  cases h
  have hc : ins = ins0 := hc
  rw [hc]; exact h0
  cases h
end
end Go.Proofs.YtdejnaokkdndeaaGreatDoor
