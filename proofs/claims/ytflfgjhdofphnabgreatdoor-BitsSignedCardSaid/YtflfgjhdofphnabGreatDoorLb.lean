/- Contracts of Go's library, out of the kit's shelf, told of trees; strconv.FormatUint walked here. -/
import Derived.Test.YtflfgjhdofphnabGreatDoorFE
import Derived.Test.YtflfgjhdofphnabGreatDoorIds
import Derived.WalkKit
import Derived.Shelf.Strings.SlTrimAscii
import Derived.Shelf.Pu.ParseUintPublic10
import Derived.Shelf.Strconv.AtoiAll
import Derived.Shelf.Strings.Repeat
import Derived.Shelf.Strings.Cut
import Derived.Shelf.Strconv.Itoa3
import Derived.Lib.AppendIntMem
namespace Go.Proofs
open Go.Shelf
def Tryz.l160_ren : Go.Shelf.Ren := ⟨fun | 160 => 126 | 232 => 155 | 231 => 148 | 227 => 144 | 234 => 156 | 233 => 149 | 236 => 157 | 235 => 150 | 228 => 145 | 271 => 188 | 151 => 177 | 197 => 176 | 120 => 210 | 152 => 142 | 260 => 204 | 137 => 170 | 119 => 171 | 224 => 172 | 225 => 173 | 217 => 201 | 266 => 216 | n => n, fun | 9 => 9 | 4 => 4 | 3 => 3 | 5 => 5 | 117 => 185 | 116 => 184 | 0 => 0 | 124 => 190 | 21 => 21 | 105 => 208 | 46 => 123 | 119 => 243 | 139 => 246 | 138 => 245 | n => n, fun | 3 => 4 | 4 => 5 | n => n⟩
theorem Tryz.l160 : Go.Proofs.Lays.n160 Tryz.prog Tryz.l160_ren := {
  mixed := by kernel_rfl
  f119 := Tryz.func171.trans (congrArg some (by kernel_rfl))
  f120 := Tryz.func210.trans (congrArg some (by kernel_rfl))
  f137 := Tryz.func170.trans (congrArg some (by kernel_rfl))
  f151 := Tryz.func177.trans (congrArg some (by kernel_rfl))
  f152 := Tryz.func142.trans (congrArg some (by kernel_rfl))
  f160 := Tryz.func126.trans (congrArg some (by kernel_rfl))
  f197 := Tryz.func176.trans (congrArg some (by kernel_rfl))
  f217 := Tryz.func201.trans (congrArg some (by kernel_rfl))
  f224 := Tryz.func172.trans (congrArg some (by kernel_rfl))
  f225 := Tryz.func173.trans (congrArg some (by kernel_rfl))
  f227 := Tryz.func144.trans (congrArg some (by kernel_rfl))
  f228 := Tryz.func145.trans (congrArg some (by kernel_rfl))
  f231 := Tryz.func148.trans (congrArg some (by kernel_rfl))
  f232 := Tryz.func155.trans (congrArg some (by kernel_rfl))
  f233 := Tryz.func149.trans (congrArg some (by kernel_rfl))
  f234 := Tryz.func156.trans (congrArg some (by kernel_rfl))
  f235 := Tryz.func150.trans (congrArg some (by kernel_rfl))
  f236 := Tryz.func157.trans (congrArg some (by kernel_rfl))
  f260 := Tryz.func204.trans (congrArg some (by kernel_rfl))
  f266 := Tryz.func216.trans (congrArg some (by kernel_rfl))
  f271 := Tryz.func188.trans (congrArg some (by kernel_rfl))
  t0 := Tryz.underlying0
  a0 := Tryz.isAgg0
  z0 := Tryz.sizeOf0
  v0 := Tryz.zeroValue0
  t3 := Tryz.underlying3
  a3 := Tryz.isAgg3
  z3 := Tryz.sizeOf3
  v3 := Tryz.zeroValue3
  t4 := Tryz.underlying4
  a4 := Tryz.isAgg4
  z4 := Tryz.sizeOf4
  v4 := Tryz.zeroValue4
  t5 := Tryz.underlying5
  a5 := Tryz.isAgg5
  z5 := Tryz.sizeOf5
  v5 := Tryz.zeroValue5
  t9 := Tryz.underlying9
  a9 := Tryz.isAgg9
  z9 := Tryz.sizeOf9
  v9 := Tryz.zeroValue9
  t21 := Tryz.underlying21
  a21 := Tryz.isAgg21
  z21 := Tryz.sizeOf21
  v21 := Tryz.zeroValue21
  t46 := Tryz.underlying123
  a46 := Tryz.isAgg123
  z46 := Tryz.sizeOf123
  v46 := Tryz.zeroValue123
  t105 := Tryz.underlying208
  a105 := Tryz.isAgg208
  z105 := Tryz.sizeOf208
  v105 := Tryz.zeroValue208
  t116 := Tryz.underlying184
  a116 := Tryz.isAgg184
  z116 := Tryz.sizeOf184
  t117 := Tryz.underlying185
  a117 := Tryz.isAgg185
  z117 := Tryz.sizeOf185
  v117 := Tryz.zeroValue185
  t119 := Tryz.underlying243
  a119 := Tryz.isAgg243
  z119 := Tryz.sizeOf243
  t124 := Tryz.underlying190
  a124 := Tryz.isAgg190
  z124 := Tryz.sizeOf190
  v124 := Tryz.zeroValue190
  t138 := Tryz.underlying245
  a138 := Tryz.isAgg245
  z138 := Tryz.sizeOf245
  v138 := Tryz.zeroValue245
  t139 := Tryz.underlying246
  a139 := Tryz.isAgg246
  z139 := Tryz.sizeOf246
  v139 := Tryz.zeroValue246
  g3 := by kernel_rfl
  g4 := by kernel_rfl
}
def Tryz.l161_ren : Go.Shelf.Ren := ⟨fun | 161 => 109 | 231 => 148 | 227 => 144 | 233 => 149 | 235 => 150 | 228 => 145 | 197 => 176 | 151 => 177 | 260 => 204 | 152 => 142 | 137 => 170 | 119 => 171 | 224 => 172 | 225 => 173 | 217 => 201 | 266 => 216 | n => n, fun | 9 => 9 | 4 => 4 | 3 => 3 | 5 => 5 | 117 => 185 | 116 => 184 | 0 => 0 | 124 => 190 | 105 => 208 | 21 => 21 | 119 => 243 | 46 => 123 | 139 => 246 | 138 => 245 | n => n, fun | 3 => 4 | 4 => 5 | n => n⟩
theorem Tryz.l161 : Go.Proofs.Lays.n161 Tryz.prog Tryz.l161_ren := {
  mixed := by kernel_rfl
  f119 := Tryz.func171.trans (congrArg some (by kernel_rfl))
  f137 := Tryz.func170.trans (congrArg some (by kernel_rfl))
  f151 := Tryz.func177.trans (congrArg some (by kernel_rfl))
  f152 := Tryz.func142.trans (congrArg some (by kernel_rfl))
  f161 := Tryz.func109.trans (congrArg some (by kernel_rfl))
  f197 := Tryz.func176.trans (congrArg some (by kernel_rfl))
  f217 := Tryz.func201.trans (congrArg some (by kernel_rfl))
  f224 := Tryz.func172.trans (congrArg some (by kernel_rfl))
  f225 := Tryz.func173.trans (congrArg some (by kernel_rfl))
  f227 := Tryz.func144.trans (congrArg some (by kernel_rfl))
  f228 := Tryz.func145.trans (congrArg some (by kernel_rfl))
  f231 := Tryz.func148.trans (congrArg some (by kernel_rfl))
  f233 := Tryz.func149.trans (congrArg some (by kernel_rfl))
  f235 := Tryz.func150.trans (congrArg some (by kernel_rfl))
  f260 := Tryz.func204.trans (congrArg some (by kernel_rfl))
  f266 := Tryz.func216.trans (congrArg some (by kernel_rfl))
  t0 := Tryz.underlying0
  a0 := Tryz.isAgg0
  z0 := Tryz.sizeOf0
  v0 := Tryz.zeroValue0
  t3 := Tryz.underlying3
  a3 := Tryz.isAgg3
  z3 := Tryz.sizeOf3
  v3 := Tryz.zeroValue3
  t4 := Tryz.underlying4
  a4 := Tryz.isAgg4
  z4 := Tryz.sizeOf4
  v4 := Tryz.zeroValue4
  t5 := Tryz.underlying5
  a5 := Tryz.isAgg5
  z5 := Tryz.sizeOf5
  v5 := Tryz.zeroValue5
  t9 := Tryz.underlying9
  a9 := Tryz.isAgg9
  z9 := Tryz.sizeOf9
  v9 := Tryz.zeroValue9
  t21 := Tryz.underlying21
  a21 := Tryz.isAgg21
  z21 := Tryz.sizeOf21
  v21 := Tryz.zeroValue21
  t46 := Tryz.underlying123
  a46 := Tryz.isAgg123
  z46 := Tryz.sizeOf123
  v46 := Tryz.zeroValue123
  t105 := Tryz.underlying208
  a105 := Tryz.isAgg208
  z105 := Tryz.sizeOf208
  v105 := Tryz.zeroValue208
  t116 := Tryz.underlying184
  a116 := Tryz.isAgg184
  z116 := Tryz.sizeOf184
  t117 := Tryz.underlying185
  a117 := Tryz.isAgg185
  z117 := Tryz.sizeOf185
  v117 := Tryz.zeroValue185
  t119 := Tryz.underlying243
  a119 := Tryz.isAgg243
  z119 := Tryz.sizeOf243
  t124 := Tryz.underlying190
  a124 := Tryz.isAgg190
  z124 := Tryz.sizeOf190
  v124 := Tryz.zeroValue190
  t138 := Tryz.underlying245
  a138 := Tryz.isAgg245
  z138 := Tryz.sizeOf245
  v138 := Tryz.zeroValue245
  t139 := Tryz.underlying246
  a139 := Tryz.isAgg246
  z139 := Tryz.sizeOf246
  v139 := Tryz.zeroValue246
  g3 := by kernel_rfl
  g4 := by kernel_rfl
}
def Tryz.l153_ren : Go.Shelf.Ren := ⟨fun | 153 => 105 | 152 => 142 | 226 => 143 | 227 => 144 | 228 => 145 | 137 => 170 | 119 => 171 | 224 => 172 | 225 => 173 | 217 => 201 | 266 => 216 | n => n, fun | 9 => 9 | 3 => 3 | 4 => 4 | 5 => 5 | 21 => 21 | 117 => 185 | 116 => 184 | 0 => 0 | 46 => 123 | 124 => 190 | n => n, fun | n => n⟩
theorem Tryz.l153 : Go.Proofs.Lays.n153 Tryz.prog Tryz.l153_ren := {
  mixed := by kernel_rfl
  f119 := Tryz.func171.trans (congrArg some (by kernel_rfl))
  f137 := Tryz.func170.trans (congrArg some (by kernel_rfl))
  f152 := Tryz.func142.trans (congrArg some (by kernel_rfl))
  f153 := Tryz.func105.trans (congrArg some (by kernel_rfl))
  f217 := Tryz.func201.trans (congrArg some (by kernel_rfl))
  f224 := Tryz.func172.trans (congrArg some (by kernel_rfl))
  f225 := Tryz.func173.trans (congrArg some (by kernel_rfl))
  f226 := Tryz.func143.trans (congrArg some (by kernel_rfl))
  f227 := Tryz.func144.trans (congrArg some (by kernel_rfl))
  f228 := Tryz.func145.trans (congrArg some (by kernel_rfl))
  f266 := Tryz.func216.trans (congrArg some (by kernel_rfl))
  t0 := Tryz.underlying0
  a0 := Tryz.isAgg0
  z0 := Tryz.sizeOf0
  v0 := Tryz.zeroValue0
  t3 := Tryz.underlying3
  a3 := Tryz.isAgg3
  z3 := Tryz.sizeOf3
  v3 := Tryz.zeroValue3
  t4 := Tryz.underlying4
  a4 := Tryz.isAgg4
  z4 := Tryz.sizeOf4
  v4 := Tryz.zeroValue4
  t5 := Tryz.underlying5
  a5 := Tryz.isAgg5
  z5 := Tryz.sizeOf5
  v5 := Tryz.zeroValue5
  t9 := Tryz.underlying9
  a9 := Tryz.isAgg9
  z9 := Tryz.sizeOf9
  v9 := Tryz.zeroValue9
  t21 := Tryz.underlying21
  a21 := Tryz.isAgg21
  z21 := Tryz.sizeOf21
  v21 := Tryz.zeroValue21
  t46 := Tryz.underlying123
  a46 := Tryz.isAgg123
  z46 := Tryz.sizeOf123
  v46 := Tryz.zeroValue123
  t116 := Tryz.underlying184
  a116 := Tryz.isAgg184
  z116 := Tryz.sizeOf184
  t117 := Tryz.underlying185
  a117 := Tryz.isAgg185
  z117 := Tryz.sizeOf185
  v117 := Tryz.zeroValue185
  t124 := Tryz.underlying190
  a124 := Tryz.isAgg190
  z124 := Tryz.sizeOf190
  v124 := Tryz.zeroValue190
}
def Tryz.lpu14_ren : Go.Shelf.Ren := ⟨fun | 14 => 127 | 16 => 158 | 17 => 159 | 19 => 189 | 20 => 190 | 21 => 191 | 22 => 192 | 23 => 193 | 24 => 194 | 25 => 211 | 27 => 213 | 26 => 212 | 28 => 219 | 29 => 220 | 30 => 161 | 31 => 162 | 32 => 163 | 33 => 164 | 35 => 187 | 34 => 195 | 36 => 196 | 37 => 197 | 38 => 198 | 39 => 214 | 40 => 215 | n => n, fun | 9 => 9 | 3 => 3 | 22 => 22 | 24 => 163 | 25 => 164 | 4 => 4 | 34 => 219 | 5 => 5 | 36 => 123 | 37 => 171 | 0 => 0 | 39 => 221 | 21 => 21 | 44 => 240 | 47 => 203 | 50 => 251 | 48 => 249 | 2 => 2 | 52 => 197 | 55 => 199 | 59 => 225 | 60 => 122 | 20 => 20 | 61 => 226 | 65 => 252 | 66 => 253 | 67 => 47 | n => n, fun | 0 => 2 | 1 => 3 | 2 => 0 | 3 => 6 | 4 => 7 | n => n⟩
theorem Tryz.lpu14 : Go.Proofs.LaysPu.n14 Tryz.prog Tryz.lpu14_ren := {
  mixed := by kernel_rfl
  f14 := Tryz.func127.trans (congrArg some (by kernel_rfl))
  f16 := Tryz.func158.trans (congrArg some (by kernel_rfl))
  f17 := Tryz.func159.trans (congrArg some (by kernel_rfl))
  f19 := Tryz.func189.trans (congrArg some (by kernel_rfl))
  f20 := Tryz.func190.trans (congrArg some (by kernel_rfl))
  f21 := Tryz.func191.trans (congrArg some (by kernel_rfl))
  f22 := Tryz.func192.trans (congrArg some (by kernel_rfl))
  f23 := Tryz.func193.trans (congrArg some (by kernel_rfl))
  f24 := Tryz.func194.trans (congrArg some (by kernel_rfl))
  f25 := Tryz.func211.trans (congrArg some (by kernel_rfl))
  f26 := Tryz.func212.trans (congrArg some (by kernel_rfl))
  f27 := Tryz.func213.trans (congrArg some (by kernel_rfl))
  f28 := Tryz.func219.trans (congrArg some (by kernel_rfl))
  f29 := Tryz.func220.trans (congrArg some (by kernel_rfl))
  f30 := Tryz.func161.trans (congrArg some (by kernel_rfl))
  f31 := Tryz.func162.trans (congrArg some (by kernel_rfl))
  f32 := Tryz.func163.trans (congrArg some (by kernel_rfl))
  f33 := Tryz.func164.trans (congrArg some (by kernel_rfl))
  f34 := Tryz.func195.trans (congrArg some (by kernel_rfl))
  f35 := Tryz.func187.trans (congrArg some (by kernel_rfl))
  f36 := Tryz.func196.trans (congrArg some (by kernel_rfl))
  f37 := Tryz.func197.trans (congrArg some (by kernel_rfl))
  f38 := Tryz.func198.trans (congrArg some (by kernel_rfl))
  f39 := Tryz.func214.trans (congrArg some (by kernel_rfl))
  f40 := Tryz.func215.trans (congrArg some (by kernel_rfl))
  t0 := Tryz.underlying0
  a0 := Tryz.isAgg0
  z0 := Tryz.sizeOf0
  v0 := Tryz.zeroValue0
  i0 := by kernel_rfl
  t2 := Tryz.underlying2
  a2 := Tryz.isAgg2
  z2 := Tryz.sizeOf2
  v2 := Tryz.zeroValue2
  i2 := by kernel_rfl
  t3 := Tryz.underlying3
  a3 := Tryz.isAgg3
  z3 := Tryz.sizeOf3
  v3 := Tryz.zeroValue3
  i3 := by kernel_rfl
  t4 := Tryz.underlying4
  a4 := Tryz.isAgg4
  z4 := Tryz.sizeOf4
  v4 := Tryz.zeroValue4
  i4 := by kernel_rfl
  t5 := Tryz.underlying5
  a5 := Tryz.isAgg5
  z5 := Tryz.sizeOf5
  v5 := Tryz.zeroValue5
  i5 := by kernel_rfl
  t9 := Tryz.underlying9
  a9 := Tryz.isAgg9
  z9 := Tryz.sizeOf9
  v9 := Tryz.zeroValue9
  i9 := by kernel_rfl
  t20 := Tryz.underlying20
  a20 := Tryz.isAgg20
  z20 := Tryz.sizeOf20
  v20 := Tryz.zeroValue20
  i20 := by kernel_rfl
  t21 := Tryz.underlying21
  a21 := Tryz.isAgg21
  z21 := Tryz.sizeOf21
  v21 := Tryz.zeroValue21
  i21 := by kernel_rfl
  t22 := Tryz.underlying22
  a22 := Tryz.isAgg22
  z22 := Tryz.sizeOf22
  v22 := Tryz.zeroValue22
  i22 := by kernel_rfl
  t24 := Tryz.underlying163
  a24 := Tryz.isAgg163
  z24 := Tryz.sizeOf163
  v24 := Tryz.zeroValue163
  i24 := by kernel_rfl
  t25 := Tryz.underlying164
  a25 := Tryz.isAgg164
  z25 := Tryz.sizeOf164
  v25 := Tryz.zeroValue164
  i25 := by kernel_rfl
  t34 := Tryz.underlying219
  a34 := Tryz.isAgg219
  z34 := Tryz.sizeOf219
  v34 := Tryz.zeroValue219
  i34 := by kernel_rfl
  c34 := by kernel_rfl
  t36 := Tryz.underlying123
  a36 := Tryz.isAgg123
  z36 := Tryz.sizeOf123
  v36 := Tryz.zeroValue123
  i36 := by kernel_rfl
  t37 := Tryz.underlying171
  a37 := Tryz.isAgg171
  z37 := Tryz.sizeOf171
  v37 := Tryz.zeroValue171
  i37 := by kernel_rfl
  t39 := Tryz.underlying221
  a39 := Tryz.isAgg221
  z39 := Tryz.sizeOf221
  v39 := Tryz.zeroValue221
  i39 := by kernel_rfl
  t44 := Tryz.underlying240
  a44 := Tryz.isAgg240
  z44 := Tryz.sizeOf240
  v44 := Tryz.zeroValue240
  i44 := by kernel_rfl
  t47 := Tryz.underlying203
  a47 := Tryz.isAgg203
  z47 := Tryz.sizeOf203
  v47 := Tryz.zeroValue203
  i47 := by kernel_rfl
  t48 := Tryz.underlying249
  a48 := Tryz.isAgg249
  z48 := Tryz.sizeOf249
  v48 := Tryz.zeroValue249
  i48 := by kernel_rfl
  t50 := Tryz.underlying251
  a50 := Tryz.isAgg251
  z50 := Tryz.sizeOf251
  v50 := Tryz.zeroValue251
  i50 := by kernel_rfl
  t52 := Tryz.underlying197
  a52 := Tryz.isAgg197
  z52 := Tryz.sizeOf197
  v52 := Tryz.zeroValue197
  i52 := by kernel_rfl
  t55 := Tryz.underlying199
  a55 := Tryz.isAgg199
  z55 := Tryz.sizeOf199
  v55 := Tryz.zeroValue199
  i55 := by kernel_rfl
  t59 := Tryz.underlying225
  a59 := Tryz.isAgg225
  z59 := Tryz.sizeOf225
  v59 := Tryz.zeroValue225
  i59 := by kernel_rfl
  t60 := Tryz.underlying122
  a60 := Tryz.isAgg122
  z60 := Tryz.sizeOf122
  v60 := Tryz.zeroValue122
  i60 := by kernel_rfl
  t61 := Tryz.underlying226
  a61 := Tryz.isAgg226
  z61 := Tryz.sizeOf226
  t65 := Tryz.underlying252
  a65 := Tryz.isAgg252
  z65 := Tryz.sizeOf252
  v65 := Tryz.zeroValue252
  i65 := by kernel_rfl
  t66 := Tryz.underlying253
  a66 := Tryz.isAgg253
  z66 := Tryz.sizeOf253
  v66 := Tryz.zeroValue253
  i66 := by kernel_rfl
  t67 := Tryz.underlying47
  a67 := Tryz.isAgg47
  z67 := Tryz.sizeOf47
  v67 := Tryz.zeroValue47
  i67 := by kernel_rfl
  g0 := by kernel_rfl
  m0 := by kernel_rfl
  g1 := by kernel_rfl
  m1 := by kernel_rfl
  g2 := by kernel_rfl
  m2 := by kernel_rfl
  g3 := by kernel_rfl
  m3 := by kernel_rfl
  g4 := by kernel_rfl
  m4 := by kernel_rfl
}
def Tryz.l172_ren : Go.Shelf.Ren := ⟨fun | 172 => 146 | 244 => 174 | 245 => 159 | 247 => 202 | 279 => 191 | 280 => 192 | 281 => 193 | 282 => 194 | 287 => 158 | 316 => 211 | 171 => 213 | 205 => 212 | 321 => 189 | 322 => 190 | 243 => 219 | 246 => 220 | 283 => 161 | 284 => 162 | 285 => 163 | 286 => 164 | 129 => 187 | 317 => 195 | 318 => 196 | 319 => 197 | 320 => 198 | 337 => 214 | 338 => 215 | n => n, fun | 9 => 9 | 3 => 3 | 75 => 163 | 76 => 175 | 4 => 4 | 5 => 5 | 167 => 219 | 37 => 171 | 0 => 0 | 85 => 230 | 2 => 2 | 168 => 221 | 53 => 22 | 175 => 164 | 46 => 123 | 210 => 240 | 127 => 203 | 145 => 251 | 143 => 249 | 21 => 21 | 171 => 197 | 173 => 199 | 212 => 225 | 51 => 122 | 20 => 20 | 213 => 226 | 232 => 252 | 233 => 253 | 80 => 47 | n => n, fun | 15 => 2 | 16 => 3 | 17 => 0 | 18 => 6 | 19 => 7 | n => n⟩
theorem Tryz.l172 : Go.Proofs.LaysC.n172 Tryz.prog Tryz.l172_ren := {
  mixed := by kernel_rfl
  f129 := Tryz.func187.trans (congrArg some (by kernel_rfl))
  f171 := Tryz.func213.trans (congrArg some (by kernel_rfl))
  f172 := Tryz.func146.trans (congrArg some (by kernel_rfl))
  f205 := Tryz.func212.trans (congrArg some (by kernel_rfl))
  f243 := Tryz.func219.trans (congrArg some (by kernel_rfl))
  f244 := Tryz.func174.trans (congrArg some (by kernel_rfl))
  f245 := Tryz.func159.trans (congrArg some (by kernel_rfl))
  f246 := Tryz.func220.trans (congrArg some (by kernel_rfl))
  f247 := Tryz.func202.trans (congrArg some (by kernel_rfl))
  f279 := Tryz.func191.trans (congrArg some (by kernel_rfl))
  f280 := Tryz.func192.trans (congrArg some (by kernel_rfl))
  f281 := Tryz.func193.trans (congrArg some (by kernel_rfl))
  f282 := Tryz.func194.trans (congrArg some (by kernel_rfl))
  f283 := Tryz.func161.trans (congrArg some (by kernel_rfl))
  f284 := Tryz.func162.trans (congrArg some (by kernel_rfl))
  f285 := Tryz.func163.trans (congrArg some (by kernel_rfl))
  f286 := Tryz.func164.trans (congrArg some (by kernel_rfl))
  f287 := Tryz.func158.trans (congrArg some (by kernel_rfl))
  f316 := Tryz.func211.trans (congrArg some (by kernel_rfl))
  f317 := Tryz.func195.trans (congrArg some (by kernel_rfl))
  f318 := Tryz.func196.trans (congrArg some (by kernel_rfl))
  f319 := Tryz.func197.trans (congrArg some (by kernel_rfl))
  f320 := Tryz.func198.trans (congrArg some (by kernel_rfl))
  f321 := Tryz.func189.trans (congrArg some (by kernel_rfl))
  f322 := Tryz.func190.trans (congrArg some (by kernel_rfl))
  f337 := Tryz.func214.trans (congrArg some (by kernel_rfl))
  f338 := Tryz.func215.trans (congrArg some (by kernel_rfl))
  t0 := Tryz.underlying0
  a0 := Tryz.isAgg0
  z0 := Tryz.sizeOf0
  v0 := Tryz.zeroValue0
  t2 := Tryz.underlying2
  a2 := Tryz.isAgg2
  z2 := Tryz.sizeOf2
  v2 := Tryz.zeroValue2
  t3 := Tryz.underlying3
  a3 := Tryz.isAgg3
  z3 := Tryz.sizeOf3
  v3 := Tryz.zeroValue3
  t4 := Tryz.underlying4
  a4 := Tryz.isAgg4
  z4 := Tryz.sizeOf4
  v4 := Tryz.zeroValue4
  t5 := Tryz.underlying5
  a5 := Tryz.isAgg5
  z5 := Tryz.sizeOf5
  v5 := Tryz.zeroValue5
  t9 := Tryz.underlying9
  a9 := Tryz.isAgg9
  z9 := Tryz.sizeOf9
  v9 := Tryz.zeroValue9
  t20 := Tryz.underlying20
  a20 := Tryz.isAgg20
  z20 := Tryz.sizeOf20
  v20 := Tryz.zeroValue20
  t21 := Tryz.underlying21
  a21 := Tryz.isAgg21
  z21 := Tryz.sizeOf21
  v21 := Tryz.zeroValue21
  t37 := Tryz.underlying171
  a37 := Tryz.isAgg171
  z37 := Tryz.sizeOf171
  v37 := Tryz.zeroValue171
  t46 := Tryz.underlying123
  a46 := Tryz.isAgg123
  z46 := Tryz.sizeOf123
  v46 := Tryz.zeroValue123
  t51 := Tryz.underlying122
  a51 := Tryz.isAgg122
  z51 := Tryz.sizeOf122
  v51 := Tryz.zeroValue122
  t53 := Tryz.underlying22
  a53 := Tryz.isAgg22
  z53 := Tryz.sizeOf22
  v53 := Tryz.zeroValue22
  t75 := Tryz.underlying163
  a75 := Tryz.isAgg163
  z75 := Tryz.sizeOf163
  v75 := Tryz.zeroValue163
  t76 := Tryz.underlying175
  a76 := Tryz.isAgg175
  z76 := Tryz.sizeOf175
  v76 := Tryz.zeroValue175
  t85 := Tryz.underlying230
  a85 := Tryz.isAgg230
  z85 := Tryz.sizeOf230
  v85 := Tryz.zeroValue230
  t127 := Tryz.underlying203
  a127 := Tryz.isAgg203
  z127 := Tryz.sizeOf203
  v127 := Tryz.zeroValue203
  t143 := Tryz.underlying249
  a143 := Tryz.isAgg249
  z143 := Tryz.sizeOf249
  v143 := Tryz.zeroValue249
  t145 := Tryz.underlying251
  a145 := Tryz.isAgg251
  z145 := Tryz.sizeOf251
  v145 := Tryz.zeroValue251
  t167 := Tryz.underlying219
  a167 := Tryz.isAgg219
  z167 := Tryz.sizeOf219
  v167 := Tryz.zeroValue219
  t168 := Tryz.underlying221
  a168 := Tryz.isAgg221
  z168 := Tryz.sizeOf221
  v168 := Tryz.zeroValue221
  t171 := Tryz.underlying197
  a171 := Tryz.isAgg197
  z171 := Tryz.sizeOf197
  v171 := Tryz.zeroValue197
  t173 := Tryz.underlying199
  a173 := Tryz.isAgg199
  z173 := Tryz.sizeOf199
  v173 := Tryz.zeroValue199
  t175 := Tryz.underlying164
  a175 := Tryz.isAgg164
  z175 := Tryz.sizeOf164
  v175 := Tryz.zeroValue164
  t210 := Tryz.underlying240
  a210 := Tryz.isAgg240
  z210 := Tryz.sizeOf240
  v210 := Tryz.zeroValue240
  t212 := Tryz.underlying225
  a212 := Tryz.isAgg225
  z212 := Tryz.sizeOf225
  v212 := Tryz.zeroValue225
  t213 := Tryz.underlying226
  a213 := Tryz.isAgg226
  z213 := Tryz.sizeOf226
  t232 := Tryz.underlying252
  a232 := Tryz.isAgg252
  z232 := Tryz.sizeOf252
  v232 := Tryz.zeroValue252
  t233 := Tryz.underlying253
  a233 := Tryz.isAgg253
  z233 := Tryz.sizeOf253
  v233 := Tryz.zeroValue253
  g15 := by kernel_rfl
  g16 := by kernel_rfl
  g17 := by kernel_rfl
  g18 := by kernel_rfl
  g19 := by kernel_rfl
  t80 := Tryz.underlying47
  a80 := Tryz.isAgg47
  z80 := Tryz.sizeOf47
  v80 := Tryz.zeroValue47
  i0 := by kernel_rfl
  i2 := by kernel_rfl
  i3 := by kernel_rfl
  i4 := by kernel_rfl
  i5 := by kernel_rfl
  i9 := by kernel_rfl
  i20 := by kernel_rfl
  i21 := by kernel_rfl
  i37 := by kernel_rfl
  i46 := by kernel_rfl
  i51 := by kernel_rfl
  i53 := by kernel_rfl
  i75 := by kernel_rfl
  i76 := by kernel_rfl
  i80 := by kernel_rfl
  i85 := by kernel_rfl
  i127 := by kernel_rfl
  i143 := by kernel_rfl
  i145 := by kernel_rfl
  i167 := by kernel_rfl
  i168 := by kernel_rfl
  i171 := by kernel_rfl
  i173 := by kernel_rfl
  i175 := by kernel_rfl
  i210 := by kernel_rfl
  i212 := by kernel_rfl
  i232 := by kernel_rfl
  i233 := by kernel_rfl
  m15 := by kernel_rfl
  m16 := by kernel_rfl
  m17 := by kernel_rfl
  m18 := by kernel_rfl
  m19 := by kernel_rfl
  c0 := by kernel_rfl
  c2 := by kernel_rfl
  c3 := by kernel_rfl
  c4 := by kernel_rfl
  c5 := by kernel_rfl
  c9 := by kernel_rfl
  c20 := by kernel_rfl
  c21 := by kernel_rfl
  c37 := by kernel_rfl
  c46 := by kernel_rfl
  c51 := by kernel_rfl
  c53 := by kernel_rfl
  c75 := by kernel_rfl
  c76 := by kernel_rfl
  c80 := by kernel_rfl
  c85 := by kernel_rfl
  c127 := by kernel_rfl
  c143 := by kernel_rfl
  c145 := by kernel_rfl
  c167 := by kernel_rfl
  c168 := by kernel_rfl
  c171 := by kernel_rfl
  c173 := by kernel_rfl
  c175 := by kernel_rfl
  c210 := by kernel_rfl
  c212 := by kernel_rfl
  c213 := by kernel_rfl
  c232 := by kernel_rfl
  c233 := by kernel_rfl
}
def Tryz.l105_ren : Go.Shelf.Ren := ⟨fun | 105 => 87 | 212 => 130 | 99 => 103 | 165 => 131 | 166 => 132 | 170 => 133 | 169 => 134 | 263 => 165 | 264 => 166 | 206 => 140 | 240 => 167 | 241 => 168 | 276 => 199 | 277 => 200 | n => n, fun | 9 => 9 | 3 => 3 | 4 => 4 | 20 => 20 | 0 => 0 | 46 => 123 | 109 => 168 | 5 => 5 | 72 => 173 | 76 => 175 | 51 => 122 | 146 => 201 | 53 => 22 | 148 => 103 | 70 => 170 | 37 => 171 | 75 => 163 | 127 => 203 | 164 => 227 | 80 => 47 | n => n, fun | n => n⟩
theorem Tryz.l105 : Go.Proofs.Lays.n105 Tryz.prog Tryz.l105_ren := {
  mixed := by kernel_rfl
  f99 := Tryz.func103.trans (congrArg some (by kernel_rfl))
  f105 := Tryz.func87.trans (congrArg some (by kernel_rfl))
  f165 := Tryz.func131.trans (congrArg some (by kernel_rfl))
  f166 := Tryz.func132.trans (congrArg some (by kernel_rfl))
  f169 := Tryz.func134.trans (congrArg some (by kernel_rfl))
  f170 := Tryz.func133.trans (congrArg some (by kernel_rfl))
  f206 := Tryz.func140.trans (congrArg some (by kernel_rfl))
  f212 := Tryz.func130.trans (congrArg some (by kernel_rfl))
  f240 := Tryz.func167.trans (congrArg some (by kernel_rfl))
  f241 := Tryz.func168.trans (congrArg some (by kernel_rfl))
  f263 := Tryz.func165.trans (congrArg some (by kernel_rfl))
  f264 := Tryz.func166.trans (congrArg some (by kernel_rfl))
  f276 := Tryz.func199.trans (congrArg some (by kernel_rfl))
  f277 := Tryz.func200.trans (congrArg some (by kernel_rfl))
  t0 := Tryz.underlying0
  a0 := Tryz.isAgg0
  z0 := Tryz.sizeOf0
  v0 := Tryz.zeroValue0
  t3 := Tryz.underlying3
  a3 := Tryz.isAgg3
  z3 := Tryz.sizeOf3
  v3 := Tryz.zeroValue3
  t4 := Tryz.underlying4
  a4 := Tryz.isAgg4
  z4 := Tryz.sizeOf4
  v4 := Tryz.zeroValue4
  t5 := Tryz.underlying5
  a5 := Tryz.isAgg5
  z5 := Tryz.sizeOf5
  v5 := Tryz.zeroValue5
  t9 := Tryz.underlying9
  a9 := Tryz.isAgg9
  z9 := Tryz.sizeOf9
  v9 := Tryz.zeroValue9
  t20 := Tryz.underlying20
  a20 := Tryz.isAgg20
  z20 := Tryz.sizeOf20
  v20 := Tryz.zeroValue20
  t37 := Tryz.underlying171
  a37 := Tryz.isAgg171
  z37 := Tryz.sizeOf171
  v37 := Tryz.zeroValue171
  t46 := Tryz.underlying123
  a46 := Tryz.isAgg123
  z46 := Tryz.sizeOf123
  v46 := Tryz.zeroValue123
  t51 := Tryz.underlying122
  a51 := Tryz.isAgg122
  z51 := Tryz.sizeOf122
  v51 := Tryz.zeroValue122
  t53 := Tryz.underlying22
  a53 := Tryz.isAgg22
  z53 := Tryz.sizeOf22
  v53 := Tryz.zeroValue22
  t70 := Tryz.underlying170
  a70 := Tryz.isAgg170
  z70 := Tryz.sizeOf170
  v70 := Tryz.zeroValue170
  t72 := Tryz.underlying173
  a72 := Tryz.isAgg173
  z72 := Tryz.sizeOf173
  v72 := Tryz.zeroValue173
  t75 := Tryz.underlying163
  a75 := Tryz.isAgg163
  z75 := Tryz.sizeOf163
  v75 := Tryz.zeroValue163
  t76 := Tryz.underlying175
  a76 := Tryz.isAgg175
  z76 := Tryz.sizeOf175
  v76 := Tryz.zeroValue175
  t109 := Tryz.underlying168
  a109 := Tryz.isAgg168
  z109 := Tryz.sizeOf168
  v109 := Tryz.zeroValue168
  t127 := Tryz.underlying203
  a127 := Tryz.isAgg203
  z127 := Tryz.sizeOf203
  v127 := Tryz.zeroValue203
  t146 := Tryz.underlying201
  a146 := Tryz.isAgg201
  z146 := Tryz.sizeOf201
  v146 := Tryz.zeroValue201
  t148 := Tryz.underlying103
  a148 := Tryz.isAgg103
  z148 := Tryz.sizeOf103
  v148 := Tryz.zeroValue103
  t164 := Tryz.underlying227
  a164 := Tryz.isAgg227
  z164 := Tryz.sizeOf227
  v164 := Tryz.zeroValue227
}
def Tryz.l145_ren : Go.Shelf.Ren := ⟨fun | 145 => 107 | 220 => 147 | 219 => 175 | 217 => 201 | 225 => 173 | 224 => 172 | 267 => 203 | 266 => 216 | 314 => 217 | n => n, fun | 9 => 9 | 4 => 4 | 59 => 142 | 3 => 3 | 5 => 5 | 46 => 123 | 146 => 201 | 51 => 122 | n => n, fun | 1 => 1 | n => n⟩
theorem Tryz.l145 : Go.Proofs.Lays.n145 Tryz.prog Tryz.l145_ren := {
  mixed := by kernel_rfl
  f145 := Tryz.func107.trans (congrArg some (by kernel_rfl))
  f217 := Tryz.func201.trans (congrArg some (by kernel_rfl))
  f219 := Tryz.func175.trans (congrArg some (by kernel_rfl))
  f220 := Tryz.func147.trans (congrArg some (by kernel_rfl))
  f224 := Tryz.func172.trans (congrArg some (by kernel_rfl))
  f225 := Tryz.func173.trans (congrArg some (by kernel_rfl))
  f266 := Tryz.func216.trans (congrArg some (by kernel_rfl))
  f267 := Tryz.func203.trans (congrArg some (by kernel_rfl))
  f314 := Tryz.func217.trans (congrArg some (by kernel_rfl))
  t3 := Tryz.underlying3
  a3 := Tryz.isAgg3
  z3 := Tryz.sizeOf3
  v3 := Tryz.zeroValue3
  t4 := Tryz.underlying4
  a4 := Tryz.isAgg4
  z4 := Tryz.sizeOf4
  v4 := Tryz.zeroValue4
  t5 := Tryz.underlying5
  a5 := Tryz.isAgg5
  z5 := Tryz.sizeOf5
  v5 := Tryz.zeroValue5
  t9 := Tryz.underlying9
  a9 := Tryz.isAgg9
  z9 := Tryz.sizeOf9
  v9 := Tryz.zeroValue9
  t46 := Tryz.underlying123
  a46 := Tryz.isAgg123
  z46 := Tryz.sizeOf123
  v46 := Tryz.zeroValue123
  t51 := Tryz.underlying122
  a51 := Tryz.isAgg122
  z51 := Tryz.sizeOf122
  v51 := Tryz.zeroValue122
  t59 := Tryz.underlying142
  a59 := Tryz.isAgg142
  z59 := Tryz.sizeOf142
  v59 := Tryz.zeroValue142
  t146 := Tryz.underlying201
  a146 := Tryz.isAgg201
  z146 := Tryz.sizeOf201
  v146 := Tryz.zeroValue201
  g1 := by kernel_rfl
}
def Tryz.l283_ren : Go.Shelf.Ren := ⟨fun | 283 => 161 | n => n, fun | 3 => 3 | 9 => 9 | 4 => 4 | n => n, fun | n => n⟩
theorem Tryz.l283 : Go.Proofs.Lays.n283 Tryz.prog Tryz.l283_ren := {
  mixed := by kernel_rfl
  f283 := Tryz.func161.trans (congrArg some (by kernel_rfl))
  t3 := Tryz.underlying3
  a3 := Tryz.isAgg3
  z3 := Tryz.sizeOf3
  v3 := Tryz.zeroValue3
  t4 := Tryz.underlying4
  a4 := Tryz.isAgg4
  z4 := Tryz.sizeOf4
  v4 := Tryz.zeroValue4
  t9 := Tryz.underlying9
  a9 := Tryz.isAgg9
  z9 := Tryz.sizeOf9
  v9 := Tryz.zeroValue9
}
def Tryz.l284_ren : Go.Shelf.Ren := ⟨fun | 284 => 162 | 129 => 187 | 317 => 195 | 318 => 196 | n => n, fun | 53 => 22 | 3 => 3 | 212 => 225 | 0 => 0 | 4 => 4 | 46 => 123 | 5 => 5 | 9 => 9 | n => n, fun | 17 => 0 | n => n⟩
theorem Tryz.l284 : Go.Proofs.LaysM.n284 Tryz.prog Tryz.l284_ren := {
  mixed := by kernel_rfl
  f129 := Tryz.func187.trans (congrArg some (by kernel_rfl))
  f284 := Tryz.func162.trans (congrArg some (by kernel_rfl))
  f317 := Tryz.func195.trans (congrArg some (by kernel_rfl))
  f318 := Tryz.func196.trans (congrArg some (by kernel_rfl))
  t0 := Tryz.underlying0
  a0 := Tryz.isAgg0
  z0 := Tryz.sizeOf0
  v0 := Tryz.zeroValue0
  t3 := Tryz.underlying3
  a3 := Tryz.isAgg3
  z3 := Tryz.sizeOf3
  v3 := Tryz.zeroValue3
  t4 := Tryz.underlying4
  a4 := Tryz.isAgg4
  z4 := Tryz.sizeOf4
  v4 := Tryz.zeroValue4
  t5 := Tryz.underlying5
  a5 := Tryz.isAgg5
  z5 := Tryz.sizeOf5
  v5 := Tryz.zeroValue5
  t9 := Tryz.underlying9
  a9 := Tryz.isAgg9
  z9 := Tryz.sizeOf9
  v9 := Tryz.zeroValue9
  t46 := Tryz.underlying123
  a46 := Tryz.isAgg123
  z46 := Tryz.sizeOf123
  v46 := Tryz.zeroValue123
  t53 := Tryz.underlying22
  a53 := Tryz.isAgg22
  z53 := Tryz.sizeOf22
  v53 := Tryz.zeroValue22
  t212 := Tryz.underlying225
  a212 := Tryz.isAgg225
  z212 := Tryz.sizeOf225
  v212 := Tryz.zeroValue225
  g17 := by kernel_rfl
  i0 := by kernel_rfl
  i3 := by kernel_rfl
  i4 := by kernel_rfl
  i5 := by kernel_rfl
  i9 := by kernel_rfl
  i46 := by kernel_rfl
  i53 := by kernel_rfl
  i212 := by kernel_rfl
  m17 := by kernel_rfl
}
def Tryz.l285_ren : Go.Shelf.Ren := ⟨fun | 285 => 163 | n => n, fun | 37 => 171 | 53 => 22 | 3 => 3 | 4 => 4 | 51 => 122 | 9 => 9 | 5 => 5 | 0 => 0 | n => n, fun | n => n⟩
theorem Tryz.l285 : Go.Proofs.Lays.n285 Tryz.prog Tryz.l285_ren := {
  mixed := by kernel_rfl
  f285 := Tryz.func163.trans (congrArg some (by kernel_rfl))
  t0 := Tryz.underlying0
  a0 := Tryz.isAgg0
  z0 := Tryz.sizeOf0
  v0 := Tryz.zeroValue0
  t3 := Tryz.underlying3
  a3 := Tryz.isAgg3
  z3 := Tryz.sizeOf3
  v3 := Tryz.zeroValue3
  t4 := Tryz.underlying4
  a4 := Tryz.isAgg4
  z4 := Tryz.sizeOf4
  v4 := Tryz.zeroValue4
  t5 := Tryz.underlying5
  a5 := Tryz.isAgg5
  z5 := Tryz.sizeOf5
  v5 := Tryz.zeroValue5
  t9 := Tryz.underlying9
  a9 := Tryz.isAgg9
  z9 := Tryz.sizeOf9
  v9 := Tryz.zeroValue9
  t37 := Tryz.underlying171
  a37 := Tryz.isAgg171
  z37 := Tryz.sizeOf171
  v37 := Tryz.zeroValue171
  t51 := Tryz.underlying122
  a51 := Tryz.isAgg122
  z51 := Tryz.sizeOf122
  v51 := Tryz.zeroValue122
  t53 := Tryz.underlying22
  a53 := Tryz.isAgg22
  z53 := Tryz.sizeOf22
  v53 := Tryz.zeroValue22
}
theorem Tryz.x105 : Builder.Extra Tryz.prog Tryz.l105_ren := {
  sizeBuilder := by kernel_rfl
  liesBuilder := by kernel_rfl
  t5 := Tryz.underlying5
  a5 := Tryz.isAgg5
  z5 := Tryz.sizeOf5
  v5 := Tryz.zeroValue5
  infoByte := by kernel_rfl
  cellsByte := by kernel_rfl
  sizeByte := by kernel_rfl
  neB5 := by decide }
end Go.Proofs
namespace Va
open Go Go.Avm Go.RowKit
/-- The name of the table of powers of ten. -/
def powName : String := ("internal".push (Char.ofNat 47)) ++ "strconv.uint64pow10"
/-- The table of powers of ten is what it is. -/
def PowTab (w : World) : Prop := Lib.TabIs P w powName .u64 Lib.pow10Tab
theorem tab_of {w : World} {nm nm' : String} (h : nm = nm') (k : Lib.TabIs P w nm .u64 Lib.pow10Tab) : Lib.TabIs P w nm' .u64 Lib.pow10Tab := h ▸ k
end Va
namespace Go.Proofs
open Go.Sort Go.RowKit
set_option maxHeartbeats 6400000 in
set_option maxRecDepth 100000 in
theorem Tryz.formatUint (u : Nat) (hu64 : u < 18446744073709551616) (w : World) (htab : Va.PowTab w) :
    Calls Tryz.prog 129 #[.int .u64 u, .int .i64 10] w fun e w' => e = .returned (.string ⟨(Lib.decDigits u).toArray⟩) ∧ Below w.heap.size w w' := by
  by_cases hs : u < 100
  · go_enter Tryz.func129, Tryz.ntmps129
    go_wp2_with (go_at_call 161; refine (Any.internal_strconv_small Tryz.l283 u hs _).mono ?_; rintro e w' ⟨rfl, rfl⟩)
    go_ret
    exact ⟨rfl, Below.refl _ _⟩
  · have hu1 : 1 ≤ u := by omega
    have hnd20 : Lib.nDigits u ≤ 20 := by have := Lib.numDigits_eq u hu1 hu64; split at this <;> omega
    have hal : Tryz.prog.arrayLen 197 = 24 := by simp [Program.arrayLen, Tryz.underlying197]
    have hsl1 : ∀ W, (Instr.sliceAt 197 (.pointer (some ⟨w.heap.size, 0, none⟩)) none (some (.int .i64 (Lib.nDigits u : Int))) none).run Tryz.prog W = .ok (.slice (some ⟨w.heap.size, 0, none⟩) (Lib.nDigits u) 24) W := fun W => by
      rw [run_sliceAt_array_h W 197 ⟨w.heap.size, 0, none⟩ (by simp [Program.arrayLen, Program.elem, Tryz.underlying197]) .i64 (Lib.nDigits u : Int) (by omega) (by rw [hal]; omega)]
      go_simp
    have hH0 := Lib.holds_zero0 w 197 (Lib.nDigits u) (by omega)
    have hfmt := Any.internal_strconv_formatBase10 Tryz.l285 w.heap.size 0 24 u (Array.replicate (Lib.nDigits u) 0) (w.alloc (.cells Lib.zeros24 197)) hH0 (by rw [Array.size_replicate]; exact Lib.lt_pow_nDigits u) hu64 (by rw [Array.size_replicate]; omega)
    rw [Array.size_replicate] at hfmt
    have HH0 := Lib.hid hH0
    clear hH0 hal
    go_enter Tryz.func129, Tryz.ntmps129
    go_wp2_with (first
      | (go_at_call 162; refine (Any.internal_strconv_numDigits Tryz.l284 u hu1 hu64 _ (Va.tab_of (by kernel_rfl) (Lib.tabIs_alloc htab _))).mono ?_; rintro e w' ⟨rfl, rfl⟩))
    go_at_call 163
    refine hfmt.mono ?_
    rintro e w' ⟨rfl, k, v', dk, rfl, hF⟩
    have hcv : (convert 171 9 (.slice (some ⟨w.heap.size, 0, none⟩) (Lib.nDigits u) 24)).run Tryz.prog ((putRow (fun (b : UInt8) => Value.int .u8 (b.toNat : Int)) (w.alloc (.cells Lib.zeros24 197)) w.heap.size 0 dk).drewN k) = .ok (.string ⟨(Lib.decDigits u).toArray⟩) ((putRow (fun (b : UInt8) => Value.int .u8 (b.toNat : Int)) (w.alloc (.cells Lib.zeros24 197)) w.heap.size 0 dk).drewN k) := by
      have h := run_convert_bytes_back (P := Tryz.prog) ((putRow (fun (b : UInt8) => Value.int .u8 (b.toNat : Int)) (w.alloc (.cells Lib.zeros24 197)) w.heap.size 0 dk).drewN k) 171 9 5 ⟨w.heap.size, 0, none⟩ 24 (Lib.decDigits u) Tryz.underlying171 Tryz.underlying5 Tryz.underlying9 (fun j hj => by
        rw [Lib.row_is_numeral hF j hj, Lib.add_plain, World.cell?_drewN]
        exact cell?_putRow (fun (b : UInt8) => Value.int .u8 (b.toNat : Int)) _ w.heap.size 0 _ dk HH0.out (by rw [hF.size, Array.size_replicate]) j (by rw [hF.size]; rw [Lib.decDigits_length] at hj; exact hj))
      rw [Lib.decDigits_length] at h
      exact h
    go_wp2
    go_ret
    refine ⟨rfl, ?_⟩
    have hfin : ∃ os, (putRow (fun (b : UInt8) => Value.int .u8 (b.toNat : Int)) (w.alloc (.cells Lib.zeros24 197)) w.heap.size 0 dk).drewN k = grow (w.drewN k) os := by
      rw [alloc_eq_grow]
      obtain ⟨os', _, e⟩ := putRow_grow_new (fun (b : UInt8) => Value.int .u8 (b.toNat : Int)) w #[.cells Lib.zeros24 197] w.heap.size 0 dk (Nat.le_refl _)
      exact ⟨os', by rw [e]; rfl⟩
    obtain ⟨os, e⟩ := hfin
    rw [e]
    refine ⟨rfl, rfl, rfl, by simp [grow, World.drewN], fun j hj => ?_⟩
    simp [grow, World.drewN, Array.getElem?_append, hj]
theorem Tryz.formatUint_pub (u : Nat) (hu64 : u < 18446744073709551616) (w : World) (htab : Va.PowTab w) :
    Calls Tryz.prog 86 #[.int .u64 u, .int .i64 10] w fun e w' => e = .returned (.string ⟨(Lib.decDigits u).toArray⟩) ∧ Below w.heap.size w w' := by
  go_enter Tryz.func86, Tryz.ntmps86
  go_wp2_with (go_at_call 129; refine (Tryz.formatUint u hu64 _ htab).mono ?_; rintro e w' ⟨rfl, hb⟩)
  go_ret
  exact ⟨rfl, hb⟩
end Go.Proofs
namespace Va
open Go Go.Avm Go.RowKit
/-- What is asked of the package-level variables: the table of powers of ten is what it is; bytealg.MaxLen holds a number. -/
structure GOK (G : Glob) : Prop where
  pow : ∀ w, GW G w → PowTab w
  lt : 1 < G.n
  len : ∃ (cur : Array Value) (t : TypeId) (fz : Nat × Nat) (m : Int), G.at_ 1 = some (.cells cur t fz) ∧ cur[0]? = some (.int .i64 m)
variable {G : Glob}
theorem oneStr2 (s t : List UInt8) : OneAll [.str s, .str t] [.string ⟨s.toArray⟩, .string ⟨t.toArray⟩] :=
  ⟨_, _, rfl, one_str s, _, _, rfl, one_str t, rfl⟩
theorem asc_of {cs : List UInt8} (h : cs.all (fun b => decide (b.toNat < 128)) = true) : ∀ (j : Nat) b, cs[j]? = some b → b.toNat < 128 := fun j b hb => by
  rw [List.all_eq_true] at h
  simpa using h b (List.mem_of_getElem? hb)
theorem trim_px (s cs : List UInt8) (hs : s.length ≤ 9223372036854775807) (hc : cs.length < 4294967281) (ha : cs.all (fun b => decide (b.toNat < 128)) = true) : PX P G n_strings_Trim [.str s, .str cs] (.str (Lib.trimS s cs)) :=
  ⟨by simp only [avmF, and_true], PE_of_calls (oneStr2 s cs) (by simp only [Frz]) (fun _ _ => by simp only [Rep]) fun w _ =>
    Go.Proofs.Any.strings_Trim_laid Go.Proofs.Tryz.l160 (by kernel_rfl) ⟨s.toArray⟩ ⟨cs.toArray⟩ w hs hc (asc_of ha)⟩
theorem trimLeft_px (s cs : List UInt8) (hc : cs.length < 4294967281) (ha : cs.all (fun b => decide (b.toNat < 128)) = true) : PX P G n_strings_TrimLeft [.str s, .str cs] (.str (Lib.trimLeftS s cs)) :=
  ⟨by simp only [avmF, and_true], PE_of_calls (oneStr2 s cs) (by simp only [Frz]) (fun _ _ => by simp only [Rep]) fun w _ =>
    Go.Proofs.Any.strings_TrimLeft_laid Go.Proofs.Tryz.l161 (by kernel_rfl) ⟨s.toArray⟩ ⟨cs.toArray⟩ w hc (asc_of ha)⟩
theorem indexAny_px (s cs : List UInt8) (hs : s.length < 4294967281) (hc : cs.length < 4294967281) (hs' : s.all (fun b => decide (b.toNat < 128)) = true) (ha : cs.all (fun b => decide (b.toNat < 128)) = true) : PX P G n_strings_IndexAny [.str s, .str cs] (.int .i64 (Lib.indexAny s cs)) :=
  ⟨by simp only [avmF, and_true], PE_of_calls (oneStr2 s cs) (by simp only [Frz]) (fun _ _ => by simp only [Rep]) fun w _ =>
    Go.Proofs.Any.strings_IndexAny_laid Go.Proofs.Tryz.l153 (by kernel_rfl) ⟨s.toArray⟩ ⟨cs.toArray⟩ w hs hc (asc_of hs') (asc_of ha)⟩
theorem below_bw (w : World) (e : TypeId) (s : ByteArray) : Below w.heap.size w (Lib.bytesWorld w e s) := ⟨rfl, rfl, rfl, by rw [Lib.bytesWorld_size]; omega, fun j hj => Lib.bytesWorld_at_old w e s j hj⟩
theorem parseUint_px (s : List UInt8) (hs : s.length ≤ 9223372036854775806) (u : Nat) (h : Lib.parseUintB 32 s = .ok u) : PX P G n_strconv_ParseUint [.str s, .int .i64 10, .int .i64 32] (.tup [.int .u64 u, .raw .nilIface]) :=
  ⟨by simp only [avmF, and_true], PE_of_calls (vs := [.string ⟨s.toArray⟩, .int .i64 10, .int .i64 32]) ⟨_, _, rfl, one_str s, _, _, rfl, one_int _ _, _, _, rfl, one_int _ _, rfl⟩ (by simp [Frz, FrzL]) (v := .tuple #[.int .u64 u, .nilIface]) (fun _ _ => by simp [Rep, RepL]) fun w _ =>
    (Go.Proofs.Any.strconv_ParseUint_10_at32_ok Go.Proofs.Tryz.lpu14 ⟨s.toArray⟩ hs u h w).mono fun e w' ⟨h1, h2⟩ => ⟨h1, by
      rcases h2 with rfl | rfl
      · exact Below.refl _ _
      · exact below_bw _ _ _⟩⟩
theorem repeat_px (s : List UInt8) (c : Nat) (hc : c ≤ 9223372036854775807) (hl : s.length * c ≤ 140737488355328) : PX P G n_strings_Repeat [.str s, .int .i64 c] (.str (Lib.repeatL s c)) :=
  ⟨by simp only [avmF, and_true], PE_of_calls (vs := [.string ⟨s.toArray⟩, .int .i64 c]) ⟨_, _, rfl, one_str s, _, _, rfl, one_int _ _, rfl⟩ (by simp only [Frz]) (fun _ _ => by simp only [Rep]) fun w _ =>
    Go.Proofs.Any.strings_Repeat Go.Proofs.Tryz.l105 Go.Proofs.Tryz.x105 ⟨s.toArray⟩ c w hc hl⟩
theorem atoi_px (s : List UInt8) (hs : s.length ≤ 9223372036854775806) (v : Int) (h : Lib.atoiAll s = .ok v) : PX P G n_strconv_Atoi [.str s] (.tup [.int .i64 v, .raw .nilIface]) :=
  ⟨by simp only [avmF, and_true], PE_of_calls (vs := [.string ⟨s.toArray⟩]) ⟨_, _, rfl, one_str s, rfl⟩ (by simp [Frz, FrzL]) (v := .tuple #[.int .i64 v, .nilIface]) (fun _ _ => by simp [Rep, RepL]) fun w _ =>
    (Go.Proofs.Any.strconv_Atoi_ok Go.Proofs.Tryz.l172 ⟨s.toArray⟩ hs v h w).mono fun e w' ⟨h1, h2⟩ => ⟨h1, by
      rcases h2 with rfl | ⟨t, rfl⟩
      · exact Below.refl _ _
      · exact below_bw _ _ _⟩⟩
theorem cut_px (hG : GOK G) (s sep : List UInt8) (hs : s.length < 4294967281) : PX P G n_strings_Cut [.str s, .str sep] (.tup [.str (Lib.cut s sep).1, .str (Lib.cut s sep).2.1, .bool (Lib.cut s sep).2.2]) := by
  have hlt := hG.lt
  obtain ⟨cur, t, fz, m, h1, h2⟩ := hG.len
  refine ⟨by simp only [avmF, and_true], PE_of_calls (vs := [.string ⟨s.toArray⟩, .string ⟨sep.toArray⟩]) (oneStr2 s sep) (by simp [Frz, FrzL]) (v := .tuple #[.string ⟨(Lib.cut s sep).1.toArray⟩, .string ⟨(Lib.cut s sep).2.1.toArray⟩, .bool (Lib.cut s sep).2.2]) (fun _ _ => by simp [Rep, RepL]) fun w hw => ?_⟩
  refine (Go.Proofs.Any.strings_Cut Go.Proofs.Tryz.l145 ⟨s.toArray⟩ ⟨sep.toArray⟩ m w hs ?_).mono fun e w' ⟨h3, n, h4⟩ => ⟨h3, by subst h4; exact ⟨rfl, rfl, rfl, Nat.le_refl _, fun _ _ => rfl⟩⟩
  have := hw 1 hlt
  rw [h1] at this
  show w.cell? ⟨1, 0, none⟩ = _
  rw [cell_of_row w 1 0 cur t fz this, h2]
theorem formatUint_px (hG : GOK G) (u : Nat) (hu64 : u < 18446744073709551616) : PX P G n_strconv_FormatUint [.int .u64 u, .int .i64 ((10 : Nat) : Int)] (.str (Lib.decDigits u)) :=
  ⟨by simp only [avmF, and_true], PE_of_calls (vs := [.int .u64 u, .int .i64 10]) ⟨_, _, rfl, one_int _ _, _, _, rfl, one_int _ _, rfl⟩ (by simp only [Frz]) (fun _ _ => by simp only [Rep]) fun w hw =>
    Go.Proofs.Tryz.formatUint_pub u hu64 w (hG.pow w hw)⟩
end Va
