/-
  The functions that the statement reaches: what they answer, part 8.
-/
import Derived.Test.YtcjjlajpbakaoaaGreatDoorD36b
import Derived.Shelf.Strings.OnBuilder
import Derived.Shelf.Strconv.AtoiAll
import Derived.Shelf.Strings.Split
import Derived.Shelf.Pu.ParseUintPublic10
import Derived.Shelf.Strconv.Itoa2
import Derived.Lib.Walk
import Derived.Lib.ItoaMem
import Derived.WalkKit
import Derived.BigCall
import Derived.BigGuard

/-
  SUPERBLOCK (chapter 36): strings.Join, strings.Split, strconv.Atoi, strconv.ParseUint, by the shelf's contracts.
-/
namespace Go.Proofs.YtcjjlajpbakaoaaGreatDoor
open Go.Va Go.Shelf Go.RowKit

def ren172 : Go.Shelf.Ren where
  f := fun x => match x with
    | 172 => 49
    | 244 => 100
    | 245 => 101
    | 247 => 143
    | 279 => 144
    | 280 => 145
    | 281 => 146
    | 282 => 147
    | 287 => 102
    | 316 => 175
    | 171 => 44
    | 205 => 176
    | 321 => 148
    | 322 => 149
    | 243 => 94
    | 246 => 133
    | 283 => 134
    | 284 => 135
    | 285 => 136
    | 286 => 137
    | 129 => 104
    | 317 => 165
    | 318 => 166
    | 319 => 167
    | 320 => 168
    | 337 => 183
    | 338 => 184
    | n => n
  t := fun x => match x with
    | 9 => 9
    | 3 => 3
    | 75 => 99
    | 76 => 100
    | 4 => 4
    | 5 => 5
    | 167 => 174
    | 37 => 37
    | 0 => 0
    | 85 => 175
    | 2 => 2
    | 168 => 177
    | 53 => 22
    | 175 => 102
    | 46 => 150
    | 210 => 204
    | 127 => 171
    | 145 => 214
    | 143 => 212
    | 21 => 21
    | 171 => 167
    | 173 => 169
    | 212 => 193
    | 51 => 148
    | 20 => 20
    | 213 => 194
    | 232 => 218
    | 233 => 219
    | 80 => 142
    | n => n
  g := fun x => match x with
    | 15 => 2
    | 16 => 3
    | 17 => 1
    | 18 => 5
    | 19 => 6
    | n => n
theorem lays172 : LaysC.n172 Tryz.prog ren172 where
  mixed := mixed
  f129 := by kernel_rfl
  f171 := by kernel_rfl
  f172 := by kernel_rfl
  f205 := by kernel_rfl
  f243 := by kernel_rfl
  f244 := by kernel_rfl
  f245 := by kernel_rfl
  f246 := by kernel_rfl
  f247 := by kernel_rfl
  f279 := by kernel_rfl
  f280 := by kernel_rfl
  f281 := by kernel_rfl
  f282 := by kernel_rfl
  f283 := by kernel_rfl
  f284 := by kernel_rfl
  f285 := by kernel_rfl
  f286 := by kernel_rfl
  f287 := by kernel_rfl
  f316 := by kernel_rfl
  f317 := by kernel_rfl
  f318 := by kernel_rfl
  f319 := by kernel_rfl
  f320 := by kernel_rfl
  f321 := by kernel_rfl
  f322 := by kernel_rfl
  f337 := by kernel_rfl
  f338 := by kernel_rfl
  t0 := Tryz.underlying0
  a0 := Tryz.isAgg0
  z0 := Tryz.sizeOf0
  v0 := Tryz.zeroValue0
  t2 := Tryz.underlying2
  a2 := Tryz.isAgg2
  z2 := Tryz.sizeOf2
  v2 := Tryz.zeroValue2
  t3 := Tryz.underlying3
  a3 := Tryz.isAgg3
  z3 := Tryz.sizeOf3
  v3 := Tryz.zeroValue3
  t4 := Tryz.underlying4
  a4 := Tryz.isAgg4
  z4 := Tryz.sizeOf4
  v4 := Tryz.zeroValue4
  t5 := Tryz.underlying5
  a5 := Tryz.isAgg5
  z5 := Tryz.sizeOf5
  v5 := Tryz.zeroValue5
  t9 := Tryz.underlying9
  a9 := Tryz.isAgg9
  z9 := Tryz.sizeOf9
  v9 := Tryz.zeroValue9
  t20 := Tryz.underlying20
  a20 := Tryz.isAgg20
  z20 := Tryz.sizeOf20
  v20 := Tryz.zeroValue20
  t21 := Tryz.underlying21
  a21 := Tryz.isAgg21
  z21 := Tryz.sizeOf21
  v21 := Tryz.zeroValue21
  t37 := Tryz.underlying37
  a37 := Tryz.isAgg37
  z37 := Tryz.sizeOf37
  v37 := Tryz.zeroValue37
  t46 := Tryz.underlying150
  a46 := Tryz.isAgg150
  z46 := Tryz.sizeOf150
  v46 := Tryz.zeroValue150
  t51 := Tryz.underlying148
  a51 := Tryz.isAgg148
  z51 := Tryz.sizeOf148
  v51 := Tryz.zeroValue148
  t53 := Tryz.underlying22
  a53 := Tryz.isAgg22
  z53 := Tryz.sizeOf22
  v53 := Tryz.zeroValue22
  t75 := Tryz.underlying99
  a75 := Tryz.isAgg99
  z75 := Tryz.sizeOf99
  v75 := Tryz.zeroValue99
  t76 := Tryz.underlying100
  a76 := Tryz.isAgg100
  z76 := Tryz.sizeOf100
  v76 := Tryz.zeroValue100
  t85 := Tryz.underlying175
  a85 := Tryz.isAgg175
  z85 := Tryz.sizeOf175
  v85 := Tryz.zeroValue175
  t127 := Tryz.underlying171
  a127 := Tryz.isAgg171
  z127 := Tryz.sizeOf171
  v127 := Tryz.zeroValue171
  t143 := Tryz.underlying212
  a143 := Tryz.isAgg212
  z143 := Tryz.sizeOf212
  v143 := Tryz.zeroValue212
  t145 := Tryz.underlying214
  a145 := Tryz.isAgg214
  z145 := Tryz.sizeOf214
  v145 := Tryz.zeroValue214
  t167 := Tryz.underlying174
  a167 := Tryz.isAgg174
  z167 := Tryz.sizeOf174
  v167 := Tryz.zeroValue174
  t168 := Tryz.underlying177
  a168 := Tryz.isAgg177
  z168 := Tryz.sizeOf177
  v168 := Tryz.zeroValue177
  t171 := Tryz.underlying167
  a171 := Tryz.isAgg167
  z171 := Tryz.sizeOf167
  v171 := Tryz.zeroValue167
  t173 := Tryz.underlying169
  a173 := Tryz.isAgg169
  z173 := Tryz.sizeOf169
  v173 := Tryz.zeroValue169
  t175 := Tryz.underlying102
  a175 := Tryz.isAgg102
  z175 := Tryz.sizeOf102
  v175 := Tryz.zeroValue102
  t210 := Tryz.underlying204
  a210 := Tryz.isAgg204
  z210 := Tryz.sizeOf204
  v210 := Tryz.zeroValue204
  t212 := Tryz.underlying193
  a212 := Tryz.isAgg193
  z212 := Tryz.sizeOf193
  v212 := Tryz.zeroValue193
  t213 := Tryz.underlying194
  a213 := Tryz.isAgg194
  z213 := Tryz.sizeOf194
  t232 := Tryz.underlying218
  a232 := Tryz.isAgg218
  z232 := Tryz.sizeOf218
  v232 := Tryz.zeroValue218
  t233 := Tryz.underlying219
  a233 := Tryz.isAgg219
  z233 := Tryz.sizeOf219
  v233 := Tryz.zeroValue219
  g15 := by kernel_rfl
  g16 := by kernel_rfl
  g17 := by kernel_rfl
  g18 := by kernel_rfl
  g19 := by kernel_rfl
  t80 := Tryz.underlying142
  a80 := Tryz.isAgg142
  z80 := Tryz.sizeOf142
  v80 := Tryz.zeroValue142
  i0 := by kernel_rfl
  i2 := by kernel_rfl
  i3 := by kernel_rfl
  i4 := by kernel_rfl
  i5 := by kernel_rfl
  i9 := by kernel_rfl
  i20 := by kernel_rfl
  i21 := by kernel_rfl
  i37 := by kernel_rfl
  i46 := by kernel_rfl
  i51 := by kernel_rfl
  i53 := by kernel_rfl
  i75 := by kernel_rfl
  i76 := by kernel_rfl
  i80 := by kernel_rfl
  i85 := by kernel_rfl
  i127 := by kernel_rfl
  i143 := by kernel_rfl
  i145 := by kernel_rfl
  i167 := by kernel_rfl
  i168 := by kernel_rfl
  i171 := by kernel_rfl
  i173 := by kernel_rfl
  i175 := by kernel_rfl
  i210 := by kernel_rfl
  i212 := by kernel_rfl
  i232 := by kernel_rfl
  i233 := by kernel_rfl
  m15 := by kernel_rfl
  m16 := by kernel_rfl
  m17 := by kernel_rfl
  m18 := by kernel_rfl
  m19 := by kernel_rfl
  c0 := by kernel_rfl
  c2 := by kernel_rfl
  c3 := by kernel_rfl
  c4 := by kernel_rfl
  c5 := by kernel_rfl
  c9 := by kernel_rfl
  c20 := by kernel_rfl
  c21 := by kernel_rfl
  c37 := by kernel_rfl
  c46 := by kernel_rfl
  c51 := by kernel_rfl
  c53 := by kernel_rfl
  c75 := by kernel_rfl
  c76 := by kernel_rfl
  c80 := by kernel_rfl
  c85 := by kernel_rfl
  c127 := by kernel_rfl
  c143 := by kernel_rfl
  c145 := by kernel_rfl
  c167 := by kernel_rfl
  c168 := by kernel_rfl
  c171 := by kernel_rfl
  c173 := by kernel_rfl
  c175 := by kernel_rfl
  c210 := by kernel_rfl
  c212 := by kernel_rfl
  c213 := by kernel_rfl
  c232 := by kernel_rfl
  c233 := by kernel_rfl
def ren156 : Go.Shelf.Ren where
  f := fun x => match x with
    | 156 => 46
    | 165 => 96
    | 166 => 97
    | 169 => 98
    | 240 => 138
    | 241 => 139
    | 276 => 169
    | 277 => 170
    | n => n
  t := fun x => match x with
    | 31 => 91
    | 9 => 9
    | 3 => 3
    | 4 => 4
    | 0 => 0
    | 20 => 20
    | 72 => 140
    | 76 => 100
    | 70 => 138
    | 37 => 37
    | 75 => 99
    | 127 => 171
    | 164 => 196
    | 5 => 5
    | 80 => 142
    | n => n
  g := fun x => x
theorem lays156 : Lays.n156 Tryz.prog ren156 where
  mixed := mixed
  f156 := by kernel_rfl
  f165 := by kernel_rfl
  f166 := by kernel_rfl
  f169 := by kernel_rfl
  f240 := by kernel_rfl
  f241 := by kernel_rfl
  f276 := by kernel_rfl
  f277 := by kernel_rfl
  t0 := Tryz.underlying0
  a0 := Tryz.isAgg0
  z0 := Tryz.sizeOf0
  v0 := Tryz.zeroValue0
  t3 := Tryz.underlying3
  a3 := Tryz.isAgg3
  z3 := Tryz.sizeOf3
  v3 := Tryz.zeroValue3
  t4 := Tryz.underlying4
  a4 := Tryz.isAgg4
  z4 := Tryz.sizeOf4
  v4 := Tryz.zeroValue4
  t9 := Tryz.underlying9
  a9 := Tryz.isAgg9
  z9 := Tryz.sizeOf9
  v9 := Tryz.zeroValue9
  t20 := Tryz.underlying20
  a20 := Tryz.isAgg20
  z20 := Tryz.sizeOf20
  v20 := Tryz.zeroValue20
  t31 := Tryz.underlying91
  a31 := Tryz.isAgg91
  z31 := Tryz.sizeOf91
  v31 := Tryz.zeroValue91
  t37 := Tryz.underlying37
  a37 := Tryz.isAgg37
  z37 := Tryz.sizeOf37
  v37 := Tryz.zeroValue37
  t70 := Tryz.underlying138
  a70 := Tryz.isAgg138
  z70 := Tryz.sizeOf138
  v70 := Tryz.zeroValue138
  t72 := Tryz.underlying140
  a72 := Tryz.isAgg140
  z72 := Tryz.sizeOf140
  v72 := Tryz.zeroValue140
  t75 := Tryz.underlying99
  a75 := Tryz.isAgg99
  z75 := Tryz.sizeOf99
  v75 := Tryz.zeroValue99
  t76 := Tryz.underlying100
  a76 := Tryz.isAgg100
  z76 := Tryz.sizeOf100
  v76 := Tryz.zeroValue100
  t127 := Tryz.underlying171
  a127 := Tryz.isAgg171
  z127 := Tryz.sizeOf171
  v127 := Tryz.zeroValue171
  t164 := Tryz.underlying196
  a164 := Tryz.isAgg196
  z164 := Tryz.sizeOf196
  v164 := Tryz.zeroValue196
def ren146 : Go.Shelf.Ren where
  f := fun x => match x with
    | 146 => 48
    | 221 => 99
    | 268 => 140
    | 138 => 141
    | 143 => 142
    | 195 => 171
    | 197 => 172
    | 218 => 173
    | 219 => 174
    | 260 => 185
    | 217 => 186
    | 225 => 187
    | 224 => 188
    | 267 => 189
    | 266 => 196
    | 314 => 197
    | n => n
  t := fun x => match x with
    | 9 => 9
    | 31 => 91
    | 3 => 3
    | 4 => 4
    | 0 => 0
    | 105 => 199
    | 21 => 21
    | 5 => 5
    | 46 => 150
    | 119 => 220
    | 139 => 223
    | 138 => 222
    | 146 => 224
    | 51 => 148
    | n => n
  g := fun x => match x with
    | 1 => 4
    | 3 => 7
    | 4 => 8
    | n => n
theorem lays146 : Lays.n146 Tryz.prog ren146 where
  mixed := mixed
  f138 := by kernel_rfl
  f143 := by kernel_rfl
  f146 := by kernel_rfl
  f195 := by kernel_rfl
  f197 := by kernel_rfl
  f217 := by kernel_rfl
  f218 := by kernel_rfl
  f219 := by kernel_rfl
  f221 := by kernel_rfl
  f224 := by kernel_rfl
  f225 := by kernel_rfl
  f260 := by kernel_rfl
  f266 := by kernel_rfl
  f267 := by kernel_rfl
  f268 := by kernel_rfl
  f314 := by kernel_rfl
  t0 := Tryz.underlying0
  a0 := Tryz.isAgg0
  z0 := Tryz.sizeOf0
  v0 := Tryz.zeroValue0
  t3 := Tryz.underlying3
  a3 := Tryz.isAgg3
  z3 := Tryz.sizeOf3
  v3 := Tryz.zeroValue3
  t4 := Tryz.underlying4
  a4 := Tryz.isAgg4
  z4 := Tryz.sizeOf4
  v4 := Tryz.zeroValue4
  t5 := Tryz.underlying5
  a5 := Tryz.isAgg5
  z5 := Tryz.sizeOf5
  v5 := Tryz.zeroValue5
  t9 := Tryz.underlying9
  a9 := Tryz.isAgg9
  z9 := Tryz.sizeOf9
  v9 := Tryz.zeroValue9
  t21 := Tryz.underlying21
  a21 := Tryz.isAgg21
  z21 := Tryz.sizeOf21
  v21 := Tryz.zeroValue21
  t31 := Tryz.underlying91
  a31 := Tryz.isAgg91
  z31 := Tryz.sizeOf91
  v31 := Tryz.zeroValue91
  t46 := Tryz.underlying150
  a46 := Tryz.isAgg150
  z46 := Tryz.sizeOf150
  v46 := Tryz.zeroValue150
  t51 := Tryz.underlying148
  a51 := Tryz.isAgg148
  z51 := Tryz.sizeOf148
  v51 := Tryz.zeroValue148
  t105 := Tryz.underlying199
  a105 := Tryz.isAgg199
  z105 := Tryz.sizeOf199
  v105 := Tryz.zeroValue199
  t119 := Tryz.underlying220
  a119 := Tryz.isAgg220
  z119 := Tryz.sizeOf220
  t138 := Tryz.underlying222
  a138 := Tryz.isAgg222
  z138 := Tryz.sizeOf222
  v138 := Tryz.zeroValue222
  t139 := Tryz.underlying223
  a139 := Tryz.isAgg223
  z139 := Tryz.sizeOf223
  v139 := Tryz.zeroValue223
  t146 := Tryz.underlying224
  a146 := Tryz.isAgg224
  z146 := Tryz.sizeOf224
  v146 := Tryz.zeroValue224
  g1 := by kernel_rfl
  g3 := by kernel_rfl
  g4 := by kernel_rfl
def ren14 : Go.Shelf.Ren where
  f := fun x => match x with
    | 14 => 50
    | 16 => 102
    | 17 => 101
    | 19 => 148
    | 20 => 149
    | 21 => 144
    | 22 => 145
    | 23 => 146
    | 24 => 147
    | 25 => 175
    | 27 => 44
    | 26 => 176
    | 28 => 94
    | 29 => 133
    | 30 => 134
    | 31 => 135
    | 32 => 136
    | 33 => 137
    | 35 => 104
    | 34 => 165
    | 36 => 166
    | 37 => 167
    | 38 => 168
    | 39 => 183
    | 40 => 184
    | n => n
  t := fun x => match x with
    | 9 => 9
    | 3 => 3
    | 22 => 22
    | 24 => 99
    | 25 => 102
    | 4 => 4
    | 34 => 174
    | 5 => 5
    | 36 => 150
    | 37 => 37
    | 0 => 0
    | 39 => 177
    | 21 => 21
    | 44 => 204
    | 47 => 171
    | 50 => 214
    | 48 => 212
    | 2 => 2
    | 52 => 167
    | 55 => 169
    | 59 => 193
    | 60 => 148
    | 20 => 20
    | 61 => 194
    | 65 => 218
    | 66 => 219
    | 67 => 142
    | n => n
  g := fun x => match x with
    | 0 => 2
    | 1 => 3
    | 2 => 1
    | 3 => 5
    | 4 => 6
    | n => n
theorem lays14 : LaysPu.n14 Tryz.prog ren14 where
  mixed := mixed
  f14 := by kernel_rfl
  f16 := by kernel_rfl
  f17 := by kernel_rfl
  f19 := by kernel_rfl
  f20 := by kernel_rfl
  f21 := by kernel_rfl
  f22 := by kernel_rfl
  f23 := by kernel_rfl
  f24 := by kernel_rfl
  f25 := by kernel_rfl
  f26 := by kernel_rfl
  f27 := by kernel_rfl
  f28 := by kernel_rfl
  f29 := by kernel_rfl
  f30 := by kernel_rfl
  f31 := by kernel_rfl
  f32 := by kernel_rfl
  f33 := by kernel_rfl
  f34 := by kernel_rfl
  f35 := by kernel_rfl
  f36 := by kernel_rfl
  f37 := by kernel_rfl
  f38 := by kernel_rfl
  f39 := by kernel_rfl
  f40 := by kernel_rfl
  t0 := Tryz.underlying0
  a0 := Tryz.isAgg0
  z0 := Tryz.sizeOf0
  v0 := Tryz.zeroValue0
  i0 := by kernel_rfl
  t2 := Tryz.underlying2
  a2 := Tryz.isAgg2
  z2 := Tryz.sizeOf2
  v2 := Tryz.zeroValue2
  i2 := by kernel_rfl
  t3 := Tryz.underlying3
  a3 := Tryz.isAgg3
  z3 := Tryz.sizeOf3
  v3 := Tryz.zeroValue3
  i3 := by kernel_rfl
  t4 := Tryz.underlying4
  a4 := Tryz.isAgg4
  z4 := Tryz.sizeOf4
  v4 := Tryz.zeroValue4
  i4 := by kernel_rfl
  t5 := Tryz.underlying5
  a5 := Tryz.isAgg5
  z5 := Tryz.sizeOf5
  v5 := Tryz.zeroValue5
  i5 := by kernel_rfl
  t9 := Tryz.underlying9
  a9 := Tryz.isAgg9
  z9 := Tryz.sizeOf9
  v9 := Tryz.zeroValue9
  i9 := by kernel_rfl
  t20 := Tryz.underlying20
  a20 := Tryz.isAgg20
  z20 := Tryz.sizeOf20
  v20 := Tryz.zeroValue20
  i20 := by kernel_rfl
  t21 := Tryz.underlying21
  a21 := Tryz.isAgg21
  z21 := Tryz.sizeOf21
  v21 := Tryz.zeroValue21
  i21 := by kernel_rfl
  t22 := Tryz.underlying22
  a22 := Tryz.isAgg22
  z22 := Tryz.sizeOf22
  v22 := Tryz.zeroValue22
  i22 := by kernel_rfl
  t24 := Tryz.underlying99
  a24 := Tryz.isAgg99
  z24 := Tryz.sizeOf99
  v24 := Tryz.zeroValue99
  i24 := by kernel_rfl
  t25 := Tryz.underlying102
  a25 := Tryz.isAgg102
  z25 := Tryz.sizeOf102
  v25 := Tryz.zeroValue102
  i25 := by kernel_rfl
  t34 := Tryz.underlying174
  a34 := Tryz.isAgg174
  z34 := Tryz.sizeOf174
  v34 := Tryz.zeroValue174
  i34 := by kernel_rfl
  c34 := by kernel_rfl
  t36 := Tryz.underlying150
  a36 := Tryz.isAgg150
  z36 := Tryz.sizeOf150
  v36 := Tryz.zeroValue150
  i36 := by kernel_rfl
  t37 := Tryz.underlying37
  a37 := Tryz.isAgg37
  z37 := Tryz.sizeOf37
  v37 := Tryz.zeroValue37
  i37 := by kernel_rfl
  t39 := Tryz.underlying177
  a39 := Tryz.isAgg177
  z39 := Tryz.sizeOf177
  v39 := Tryz.zeroValue177
  i39 := by kernel_rfl
  t44 := Tryz.underlying204
  a44 := Tryz.isAgg204
  z44 := Tryz.sizeOf204
  v44 := Tryz.zeroValue204
  i44 := by kernel_rfl
  t47 := Tryz.underlying171
  a47 := Tryz.isAgg171
  z47 := Tryz.sizeOf171
  v47 := Tryz.zeroValue171
  i47 := by kernel_rfl
  t48 := Tryz.underlying212
  a48 := Tryz.isAgg212
  z48 := Tryz.sizeOf212
  v48 := Tryz.zeroValue212
  i48 := by kernel_rfl
  t50 := Tryz.underlying214
  a50 := Tryz.isAgg214
  z50 := Tryz.sizeOf214
  v50 := Tryz.zeroValue214
  i50 := by kernel_rfl
  t52 := Tryz.underlying167
  a52 := Tryz.isAgg167
  z52 := Tryz.sizeOf167
  v52 := Tryz.zeroValue167
  i52 := by kernel_rfl
  t55 := Tryz.underlying169
  a55 := Tryz.isAgg169
  z55 := Tryz.sizeOf169
  v55 := Tryz.zeroValue169
  i55 := by kernel_rfl
  t59 := Tryz.underlying193
  a59 := Tryz.isAgg193
  z59 := Tryz.sizeOf193
  v59 := Tryz.zeroValue193
  i59 := by kernel_rfl
  t60 := Tryz.underlying148
  a60 := Tryz.isAgg148
  z60 := Tryz.sizeOf148
  v60 := Tryz.zeroValue148
  i60 := by kernel_rfl
  t61 := Tryz.underlying194
  a61 := Tryz.isAgg194
  z61 := Tryz.sizeOf194
  t65 := Tryz.underlying218
  a65 := Tryz.isAgg218
  z65 := Tryz.sizeOf218
  v65 := Tryz.zeroValue218
  i65 := by kernel_rfl
  t66 := Tryz.underlying219
  a66 := Tryz.isAgg219
  z66 := Tryz.sizeOf219
  v66 := Tryz.zeroValue219
  i66 := by kernel_rfl
  t67 := Tryz.underlying142
  a67 := Tryz.isAgg142
  z67 := Tryz.sizeOf142
  v67 := Tryz.zeroValue142
  i67 := by kernel_rfl
  g0 := by kernel_rfl
  m0 := by kernel_rfl
  g1 := by kernel_rfl
  m1 := by kernel_rfl
  g2 := by kernel_rfl
  m2 := by kernel_rfl
  g3 := by kernel_rfl
  m3 := by kernel_rfl
  g4 := by kernel_rfl
  m4 := by kernel_rfl
theorem extra156 : Builder.Extra Tryz.prog ren156 where
  sizeBuilder := by kernel_rfl
  liesBuilder := by kernel_rfl
  t5 := Tryz.underlying5
  a5 := Tryz.isAgg5
  z5 := Tryz.sizeOf5
  v5 := Tryz.zeroValue5
  infoByte := by kernel_rfl
  cellsByte := by kernel_rfl
  sizeByte := by kernel_rfl
  neB5 := by decide

/-! ## A contract of the shelf's kind, where lists stand among the arguments or in the answer -/

theorem rest_below {z : Nat → Nat → Option ZC} {w w' : World} (hz : Go.Va.Rest z w) (hb : Below w.heap.size w w') : Go.Va.Rest z w' := by
  refine ⟨fun hc => ?_, fun hc => ?_⟩
  · obtain ⟨C, ty, fr, h1, h2⟩ := hz.zone hc
    have hlt : _ < w.heap.size := (Array.getElem?_eq_some_iff.1 h1).1
    exact ⟨C, ty, fr, by rw [hb.block _ hlt]; exact h1, h2⟩
  · have := hz.tags hc
    exact ⟨Nat.lt_of_lt_of_le this.1 hb.size, this.2⟩
theorem pure_gen {P : Program} {G : Nat} {tabs : List (Nat × List Value)} {f : FuncId} {fn : Func} {args : List Value} {v : Value} (hfn : P.funcs[f]? = some fn) (hname : (fn.name == "runtime.NumGoroutine") = false) (hb : fn.body.isNone = false) (hv : PF v)
    (h : ∀ w, Tabs G tabs w → ∀ z, Go.Va.Rest z w → ∀ args' : Array Value, lRel (inj1 G z w.heap.size) args args'.toList → Calls P f args' w fun e w' => ∃ v', e = .returned v' ∧ Below w.heap.size w w' ∧
      ∃ z', Go.Va.Rest z' w' ∧ (inj1 G z w.heap.size).le (inj1 G z' w.heap.size) ∧ vRel (inj1 G z' w.heap.size) v v') : Pure P G tabs f args v := by
  refine ⟨hv, fun w hT z hz args' hargs => ?_⟩
  have hcall : (callFunc f args').run P w = .ok (.enter f args') w := by
    unfold callFunc
    rw [run_bind']
    show (match P.funcs[f]? with | none => _ | some fn => _ : Sem Next).run P w = _
    rw [hfn]
    simp only [hname, Bool.false_eq_true, if_false, hb]
    rfl
  exact .enter hcall ((h w hT z hz args' hargs).mono fun e w' ⟨v', he, hb, z', h1, h2, h3⟩ => ⟨_, he, hb, z', h1, h2, h3⟩)

/-! ## Lists of strings -/

def strs (l : List ByteArray) : List Value := l.map .string
theorem strs_len (l : List ByteArray) : (strs l).length = l.length := by unfold strs; simp
theorem strs_get (l : List ByteArray) (i : Nat) : (strs l)[i]? = (l[i]?).map Value.string := by unfold strs; rw [List.getElem?_map]
theorem strs_PF (l : List ByteArray) : ∀ v ∈ strs l, PF v := fun v hv => by
  obtain ⟨x, _, rfl⟩ := List.mem_map.1 hv
  exact .string _
/-- What stands for a list of strings in a world. -/
theorem strs_in {G n : Nat} {z : Nat → Nat → Option ZC} {w : World} (hz : Go.Va.Rest z w) {l : List ByteArray} {m g : Nat} (hm : l.length = m) {v' : Value} (h : vRel (inj1 G z n) (L (strs l) m 1 g) v') :
    ∃ b o c, v' = .slice (some ⟨b, o, none⟩) m c ∧ m ≤ c ∧ ∀ j x, l[j]? = some x → w.cell? ⟨b, o + j, none⟩ = some (.string x) ∧ b < w.heap.size := by
  obtain ⟨cs', b, o, c', hL⟩ := list_inv h (show asL (L (strs l) m 1 g) = some (strs l, m, 1, g) from rfl)
  refine ⟨b, o, c', hL.eq, hL.cap, fun j x hx => ?_⟩
  have hj : j < l.length := (List.getElem?_eq_some_iff.1 hx).1
  have hjs : j < (strs l).length := by rw [strs_len]; exact hj
  have hj' : j < cs'.toList.length := by rw [← hL.rel.length]; exact hjs
  obtain ⟨tg, ht⟩ := hL.at' j (by simpa using hj')
  obtain ⟨C, ty, fr, k1, k2⟩ := hz.zone ht
  have hrj := hL.rel.get j hjs hj'
  have hs1 : (strs l)[j] = .string x := by
    have : (strs l)[j]? = some (.string x) := by rw [strs_get, hx]; rfl
    obtain ⟨_, q⟩ := List.getElem?_eq_some_iff.1 this
    exact q
  rw [hs1] at hrj
  have hc : cs'.toList[j] = .string x := by
    generalize cs'.toList[j] = y at hrj
    cases hrj; rfl
  refine ⟨?_, (Array.getElem?_eq_some_iff.1 k1).1⟩
  unfold World.cell?
  dsimp only
  rw [k1]
  show C[o + j]? = _
  rw [k2]
  exact congrArg some hc

/-! ## strings.Join -/

theorem name46 : (Tryz.f46.name == "runtime.NumGoroutine") = false := by kernel_rfl
theorem body46 : Tryz.f46.body.isNone = false := by kernel_rfl
def joinS (xs : List ByteArray) (sep : ByteArray) : ByteArray := ⟨(Lib.join (xs.map (·.data.toList)) sep.data.toList).toArray⟩
theorem p46 (xs : List ByteArray) (sep : ByteArray) (m g : Nat) (hm : xs.length = m) (h0 : xs ≠ []) (hN : xs.length ≤ 140737488355328) (hlen : (Lib.join (xs.map (·.data.toList)) sep.data.toList).length ≤ 140737488355328) :
    Pure Tryz.prog 9 tabs 46 [L (strs xs) m 1 g, .string sep] (.string (joinS xs sep)) := by
  refine pure_gen Tryz.func46 name46 body46 (.string _) fun w hT z hz args' ha => ?_
  match hl : args'.toList, ha with
  | [u, s], ⟨hu, hs, _⟩ =>
    obtain ⟨b, o, c, rfl, hc, hcell⟩ := strs_in hz hm hu
    cases hs
    have e : args' = #[.slice (some ⟨b, o, none⟩) m c, .string sep] := by
      apply Array.ext'
      exact hl
    rw [e, ← hm]
    match xs, h0 with
    | x :: r, _ =>
      refine (Any.strings_Join (P := Tryz.prog) lays156 extra156 b o c (x :: r) sep w (fun j y hy => (hcell j y hy).1) (hcell 0 x rfl).2 hN (by rw [hm]; exact hc) hlen).mono ?_
      rintro e w' ⟨rfl, hb⟩
      exact ⟨_, rfl, hb, z, (rest_below hz hb), .refl _, .string _⟩

/-! ## strings.Split -/

theorem name48 : (Tryz.f48.name == "runtime.NumGoroutine") = false := by kernel_rfl
theorem body48 : Tryz.f48.body.isNone = false := by kernel_rfl
/-- The pieces between the separators. -/
def splS (s sep : ByteArray) : List ByteArray := Lib.splitB sep 0 (Lib.countB s sep) s
theorem splS_len (s sep : ByteArray) (h1 : 1 ≤ sep.size) : (splS s sep).length = Lib.countB s sep + 1 := Lib.splitB_all sep h1 0 _ s rfl
theorem hi9 : (Tryz.prog.info? (ren146.t 9)).map (fun i => (i.zero, i.size, i.bytes)) = some (some (.string ByteArray.empty), 1, 16) := by kernel_rfl
theorem p48 (s sep : ByteArray) (hs : s.size < 4294967281) (h1 : 1 ≤ sep.size) : Pure Tryz.prog 9 tabs 48 [.string s, .string sep] (L (strs (splS s sep)) (splS s sep).length 1 0) := by
  refine pure_gen Tryz.func48 name48 body48 (PF_list (by omega) (strs_PF _)) fun w hT z hz args' ha => ?_
  match hl : args'.toList, ha with
  | [u, v], ⟨hu, hv, _⟩ =>
    cases hu
    cases hv
    have e : args' = #[.string s, .string sep] := by
      apply Array.ext'
      exact hl
    rw [e]
    obtain ⟨C, ty, fr, k1, k2, k3⟩ := hT.2 (4, [anyN]) (by simp [tabs])
    obtain ⟨c0, kc, kv⟩ := k2 0 (by simp)
    obtain ⟨m, rfl⟩ := TabV.num kv
    have hm : w.cell? ⟨4, 0, none⟩ = some (.int .i64 m) := by
      unfold World.cell?
      dsimp only
      rw [k1]
      exact kc
    refine (Any.strings_Split (P := Tryz.prog) lays146 hi9 s sep m w hs hm h1).mono ?_
    rintro e w' ⟨rfl, rfl⟩
    have hb : Below w.heap.size w (w.alloc (.cells ((Lib.splitB sep 0 (Lib.countB s sep) s).map Value.string).toArray (ren146.t 9))) := by
      have := Lib.below_grow w.heap.size w (Nat.le_refl _) 0 #[.cells ((Lib.splitB sep 0 (Lib.countB s sep) s).map Value.string).toArray (ren146.t 9)]
      rw [World.drewN_zero, ← Go.Sort.alloc_eq_grow] at this
      exact this
    have hlen := splS_len s sep h1
    let z' : Nat → Nat → Option ZC := fun b j => if b = w.heap.size then ((strs (splS s sep))[j]?).map fun v => ⟨v, none⟩ else z b j
    have hnew : (w.alloc (.cells ((Lib.splitB sep 0 (Lib.countB s sep) s).map Value.string).toArray (ren146.t 9))).heap[w.heap.size]? = some (.cells ((Lib.splitB sep 0 (Lib.countB s sep) s).map Value.string).toArray (ren146.t 9)) := by
      show (w.heap.push _)[w.heap.size]? = _
      rw [Array.getElem?_push_size]
    have hold : ∀ b j c, z b j = some c → b ≠ w.heap.size := fun b j c hc => by
      obtain ⟨C', _, _, q, _⟩ := hz.zone hc
      have := (Array.getElem?_eq_some_iff.1 q).1
      omega
    refine ⟨_, rfl, hb, z', ⟨fun {b j c} hc => ?_, fun {b j v T k real} hc => ?_⟩, ⟨fun _ _ h => h, fun b j c hc => ?_, rfl, fun b j c hc hl => ?_, fun b j v T k real hc _ => ?_⟩, ?_⟩
    · by_cases hbw : b = w.heap.size
      · subst hbw
        simp only [z', if_true] at hc
        obtain ⟨v, hv, rfl⟩ := Option.map_eq_some_iff.1 hc
        refine ⟨_, _, _, hnew, ?_⟩
        rw [List.getElem?_toArray]
        exact hv
      · simp only [z', if_neg hbw] at hc
        exact ((rest_below hz hb)).zone hc
    · by_cases hbw : b = w.heap.size
      · subst hbw
        simp only [z', if_true] at hc
        obtain ⟨v, hv, e⟩ := Option.map_eq_some_iff.1 hc
        cases e
      · simp only [z', if_neg hbw] at hc
        obtain ⟨q1, i, c, q2⟩ := ((rest_below hz hb)).tags hc
        exact ⟨q1, i, c, by simp only [z', if_neg (hold _ _ _ q2)]; exact q2⟩
    · show z' b j = some c
      simp only [z', if_neg (hold _ _ _ hc)]
      exact hc
    · have hbw : b ≠ w.heap.size := by
        have : b < w.heap.size := hl
        omega
      have : z' b j = z b j := by simp only [z', if_neg hbw]
      show z b j = some c
      rw [← this]; exact hc
    · show z b j = some _
      have hc : z' b j = some ⟨v, some (T, k, real)⟩ := hc
      by_cases hbw : b = w.heap.size
      · subst hbw
        simp only [z', if_true] at hc
        obtain ⟨_, _, e⟩ := Option.map_eq_some_iff.1 hc
        cases e
      · simp only [z', if_neg hbw] at hc
        exact hc
    · rw [hlen]
      have hsz : (⟨strs (splS s sep)⟩ : Array Value).size = Lib.countB s sep + 1 := by show (strs _).length = _; rw [strs_len, hlen]
      have hstr : ∀ i (hi : i < (⟨strs (splS s sep)⟩ : Array Value).size), ∃ x, (⟨strs (splS s sep)⟩ : Array Value)[i] = .string x := fun i hi => by
        have : (⟨strs (splS s sep)⟩ : Array Value)[i] ∈ strs (splS s sep) := List.getElem_mem _
        obtain ⟨x, _, hx⟩ := List.mem_map.1 this
        exact ⟨x, hx.symm⟩
      refine vRel.lst (cs := ⟨strs (splS s sep)⟩) (cs' := ⟨strs (splS s sep)⟩) rfl (by rw [hsz, Nat.mul_one]) (fun i hi => ⟨none, ?_⟩) (fun i hi => ?_) (fun i hi _ => ?_) (Nat.le_refl _) trivial
      · show z' w.heap.size (0 + i) = _
        simp only [z', if_true, Nat.zero_add]
        have : (strs (splS s sep))[i]? = some (⟨strs (splS s sep)⟩ : Array Value)[i] := List.getElem?_eq_getElem hi
        rw [this]
        rfl
      · obtain ⟨x, hx⟩ := hstr i hi
        rw [hx]; exact ⟨rfl, .string _⟩
      · obtain ⟨x, hx⟩ := hstr i hi
        rw [hx]; exact .string _

/-! ## strconv.Atoi, strconv.ParseUint -/

/-- An error whose content is not looked at. -/
def errI (t : Nat) : Value := .iface t (Pt [] 0)
theorem errI_rel {β : Inj} (t N : Nat) : vRel β (errI t) (.iface t (.pointer (some ⟨N, 0, none⟩))) := by
  refine .iface t ?_
  exact vRel.lpt (cs := #[]) (cs' := #[]) (k := 0) (b := N) (o := 0) rfl (fun i hi => absurd hi (by simp)) (fun i hi => absurd hi (by simp)) (fun i hi _ => absurd hi (by simp))
theorem errI_PF (t : Nat) : PF (errI t) := .iface t (.lpt fun i hi => absurd hi (by simp))
theorem PF_two {a b : Value} (ha : PF a) (hb : PF b) : PF (.tuple #[a, b]) := PF_pair ha hb
theorem vRel_two {β : Inj} {a b a' b' : Value} (ha : vRel β a a') (hb : vRel β b b') : vRel β (.tuple #[a, b]) (.tuple #[a', b']) :=
  .tuple rfl fun i hi hi' => by
    match i, hi with
    | 0, _ => exact ha
    | 1, _ => exact hb
theorem err_cell {w : World} (hT : Tabs 9 tabs w) (g : Nat) (hg : (g, [anyI]) ∈ tabs) : ∃ ev, w.cell? ⟨g, 0, none⟩ = some ev ∧ (ev = .nilIface ∨ ∃ te pe, ev = .iface te pe) := by
  obtain ⟨C, ty, fr, k1, k2, k3⟩ := hT.2 (g, [anyI]) hg
  obtain ⟨c0, kc, kv⟩ := k2 0 (by simp)
  refine ⟨c0, ?_, TabV.iface kv⟩
  unfold World.cell?
  dsimp only
  rw [k1]
  exact kc
theorem name49 : (Tryz.f49.name == "runtime.NumGoroutine") = false := by kernel_rfl
theorem body49 : Tryz.f49.body.isNone = false := by kernel_rfl
def atoiV (l : List UInt8) : Value := match Lib.atoiAll l with
  | .ok v => .tuple #[.int .i64 v, .nilIface]
  | .syntax => .tuple #[.int .i64 0, errI 177]
  | .range => .tuple #[.int .i64 (Lib.atoiSat l), errI 177]
theorem p49 (s : ByteArray) (hlim : s.size ≤ 281474976710656) : Pure Tryz.prog 9 tabs 49 [.string s] (atoiV s.data.toList) := by
  have hv : PF (atoiV s.data.toList) := by
    unfold atoiV
    split
    · exact PF_two (.int _ _) .nilIface
    · exact PF_two (.int _ _) (errI_PF _)
    · exact PF_two (.int _ _) (errI_PF _)
  refine pure_gen Tryz.func49 name49 body49 hv fun w hT z hz args' ha => ?_
  match hl : args'.toList, ha with
  | [u], ⟨hu, _⟩ =>
    cases hu
    have e : args' = #[.string s] := by
      apply Array.ext'
      exact hl
    rw [e]
    unfold atoiV
    cases h : Lib.atoiAll s.data.toList with
    | ok v =>
      refine (Any.strconv_Atoi_ok (P := Tryz.prog) lays172 s (by omega) v h w).mono ?_
      rintro e w' ⟨rfl, hw⟩
      have hb : Below w.heap.size w w' := by
        rcases hw with rfl | ⟨t, rfl⟩
        · exact Below.refl _ _
        · exact Lib.bytesWorld_below _ _ _
      exact ⟨_, rfl, hb, z, (rest_below hz hb), .refl _, vRel_two (.int _ _) .nilIface⟩
    | «syntax» =>
      obtain ⟨ev, h1, h2⟩ := err_cell hT 2 (by simp [tabs])
      refine (Any.strconv_Atoi_syntax (P := Tryz.prog) lays172 s hlim h ev w h1 h2).mono ?_
      rintro e w' ⟨N, rfl, _, _, hb⟩
      exact ⟨_, rfl, hb, z, (rest_below hz hb), .refl _, vRel_two (.int _ _) (errI_rel _ _)⟩
    | range =>
      obtain ⟨ev, h1, h2⟩ := err_cell hT 3 (by simp [tabs])
      refine (Any.strconv_Atoi_range (P := Tryz.prog) lays172 s hlim h ev w h1 h2).mono ?_
      rintro e w' ⟨N, rfl, _, _, hb⟩
      exact ⟨_, rfl, hb, z, (rest_below hz hb), .refl _, vRel_two (.int _ _) (errI_rel _ _)⟩

theorem name50 : (Tryz.f50.name == "runtime.NumGoroutine") = false := by kernel_rfl
theorem body50 : Tryz.f50.body.isNone = false := by kernel_rfl
def puV (l : List UInt8) : Value := match Lib.parseUintB 64 l with
  | .ok u => .tuple #[.int .u64 (u : Nat), .nilIface]
  | .syntax => .tuple #[.int .u64 0, errI 177]
  | .range => .tuple #[.int .u64 18446744073709551615, errI 177]
theorem p50 (s : ByteArray) (hlim : s.size ≤ 281474976710656) : Pure Tryz.prog 9 tabs 50 [.string s, .int .i64 10, .int .i64 64] (puV s.data.toList) := by
  have hv : PF (puV s.data.toList) := by
    unfold puV
    split
    · exact PF_two (.int _ _) .nilIface
    · exact PF_two (.int _ _) (errI_PF _)
    · exact PF_two (.int _ _) (errI_PF _)
  refine pure_gen Tryz.func50 name50 body50 hv fun w hT z hz args' ha => ?_
  match hl : args'.toList, ha with
  | [u, v1, v2], ⟨hu, hv1, hv2, _⟩ =>
    cases hu
    cases hv1
    cases hv2
    have e : args' = #[.string s, .int .i64 10, .int .i64 64] := by
      apply Array.ext'
      exact hl
    rw [e]
    unfold puV
    cases h : Lib.parseUintB 64 s.data.toList with
    | ok v =>
      refine (Any.strconv_ParseUint_10_at64_ok (P := Tryz.prog) lays14 s (by omega) v h w).mono ?_
      rintro e w' ⟨rfl, hw⟩
      have hb : Below w.heap.size w w' := by
        rcases hw with rfl | rfl
        · exact Below.refl _ _
        · exact Lib.bytesWorld_below _ _ _
      exact ⟨_, rfl, hb, z, (rest_below hz hb), .refl _, vRel_two (.int _ _) .nilIface⟩
    | «syntax» =>
      obtain ⟨ev, h1, h2⟩ := err_cell hT 2 (by simp [tabs])
      refine (Any.strconv_ParseUint_10_at64_syntax (P := Tryz.prog) lays14 s hlim h ev w h1 h2).mono ?_
      rintro e w' ⟨N, rfl, _, _, hb⟩
      exact ⟨_, rfl, hb, z, (rest_below hz hb), .refl _, vRel_two (.int _ _) (errI_rel _ _)⟩
    | range =>
      obtain ⟨ev, h1, h2⟩ := err_cell hT 3 (by simp [tabs])
      refine (Any.strconv_ParseUint_10_at64_range (P := Tryz.prog) lays14 s hlim h ev w h1 h2).mono ?_
      rintro e w' ⟨N, rfl, _, _, hb⟩
      exact ⟨_, rfl, hb, z, (rest_below hz hb), .refl _, vRel_two (.int _ _) (errI_rel _ _)⟩

end Go.Proofs.YtcjjlajpbakaoaaGreatDoor

/-
  SUPERBLOCK (chapter 36): strconv.FormatUint at base 10, over the shelf's contracts.
-/
namespace Go.Proofs.YtcjjlajpbakaoaaGreatDoor
open Go.Va Go.Shelf Go.RowKit Go.Sort Go.Lib

set_option maxHeartbeats 6400000 in
set_option maxRecDepth 100000 in
theorem fmt95 (u : Nat) (h1 : u < 18446744073709551616) (w : World) (htab : Lib.TabIs Tryz.prog w "internal/strconv.uint64pow10" .u64 Lib.pow10Tab) :
    Calls Tryz.prog 95 #[.int .u64 u, .int .i64 10] w fun e w' => e = .returned (.string ⟨(Lib.decDigits u).toArray⟩) ∧ ∃ k os, w' = grow (w.drewN k) os := by
  have L := lays171
  by_cases hs : u < 100
  · go_enter Tryz.func95, Tryz.ntmps95
    go_wp2_with (go_at_call 134; refine (Any.internal_strconv_small (ρ := ren171) { L with } u hs _).mono ?_; rintro e w' ⟨rfl, rfl⟩)
    go_ret
    refine ⟨?_, 0, #[], by simp [World.drewN_zero]⟩
    rfl
  · have hu1 : 1 ≤ u := by omega
    have hnd20 : Lib.nDigits u ≤ 20 := by have := Lib.numDigits_eq u hu1 h1; split at this <;> omega
    have hal : Tryz.prog.arrayLen 167 = 24 := by kernel_rfl
    have hsl1 : ∀ W, (Instr.sliceAt 167 (.pointer (some ⟨w.heap.size, 0, none⟩)) none (some (.int .i64 (Lib.nDigits u : Int))) none).run Tryz.prog W = .ok (.slice (some ⟨w.heap.size, 0, none⟩) (Lib.nDigits u) 24) W := fun W => by
      rw [run_sliceAt_array_h W 167 ⟨w.heap.size, 0, none⟩ (by kernel_rfl) .i64 (Lib.nDigits u : Int) (by omega) (by rw [hal]; omega)]
      go_simp
    have hH0 := Lib.holds_zero0 w 167 (Lib.nDigits u) (by omega)
    have hfmt := Any.internal_strconv_formatBase10 (P := Tryz.prog) (ρ := ren171) { L with } w.heap.size 0 24 u (Array.replicate (Lib.nDigits u) 0) (w.alloc (.cells Lib.zeros24 167)) hH0 (by rw [Array.size_replicate]; exact Lib.lt_pow_nDigits u) h1 (by rw [Array.size_replicate]; omega)
    rw [Array.size_replicate] at hfmt
    have HH0 := Lib.hid hH0
    clear hH0 hal
    go_enter Tryz.func95, Tryz.ntmps95
    go_wp2_with (first
      | (go_at_call 135; refine (Any.internal_strconv_numDigits (ρ := ren171) { L with } u hu1 h1 _ (Lib.tabIs_alloc htab _)).mono ?_; rintro e w' ⟨rfl, rfl⟩))
    go_at_call 136
    refine hfmt.mono ?_
    rintro e w' ⟨rfl, k, v', dk, rfl, hF⟩
    have hcv : (convert 37 9 (.slice (some ⟨w.heap.size, 0, none⟩) (Lib.nDigits u) 24)).run Tryz.prog ((putRow (fun (b : UInt8) => Value.int .u8 (b.toNat : Int)) (w.alloc (.cells Lib.zeros24 167)) w.heap.size 0 dk).drewN k) = .ok (.string ⟨(Lib.decDigits u).toArray⟩) ((putRow (fun (b : UInt8) => Value.int .u8 (b.toNat : Int)) (w.alloc (.cells Lib.zeros24 167)) w.heap.size 0 dk).drewN k) := by
      have h := run_convert_bytes_back (P := Tryz.prog) ((putRow (fun (b : UInt8) => Value.int .u8 (b.toNat : Int)) (w.alloc (.cells Lib.zeros24 167)) w.heap.size 0 dk).drewN k) 37 9 5 ⟨w.heap.size, 0, none⟩ 24 (Lib.decDigits u) Tryz.underlying37 Tryz.underlying5 Tryz.underlying9 (fun j hj => by
        rw [Lib.row_is_numeral hF j hj, Lib.add_plain, World.cell?_drewN]
        exact cell?_putRow (fun (b : UInt8) => Value.int .u8 (b.toNat : Int)) _ w.heap.size 0 _ dk HH0.out (by rw [hF.size, Array.size_replicate]) j (by rw [hF.size]; rw [Lib.decDigits_length] at hj; exact hj))
      rw [Lib.decDigits_length] at h
      exact h
    go_wp2
    go_ret
    obtain ⟨os, eo⟩ := Lib.fin_at w (.cells Lib.zeros24 167) dk k 0
    exact ⟨rfl, k, os, eo⟩
set_option maxRecDepth 100000 in
theorem fmt45 (u : Nat) (h1 : u < 18446744073709551616) (w : World) (htab : Lib.TabIs Tryz.prog w "internal/strconv.uint64pow10" .u64 Lib.pow10Tab) :
    Calls Tryz.prog 45 #[.int .u64 u, .int .i64 10] w fun e w' => e = .returned (.string ⟨(Lib.decDigits u).toArray⟩) ∧ ∃ k os, w' = grow (w.drewN k) os := by
  go_enter Tryz.func45, Tryz.ntmps45
  go_wp2_with (go_at_call 95; refine (fmt95 u h1 _ htab).mono ?_; rintro e w' ⟨rfl, k, os, rfl⟩)
  go_ret
  exact ⟨rfl, k, os, rfl⟩
theorem name45 : (Tryz.f45.name == "runtime.NumGoroutine") = false := by kernel_rfl
theorem body45 : Tryz.f45.body.isNone = false := by kernel_rfl
/-- A number's digits, as a string. -/
def decS (u : Nat) : ByteArray := ⟨(Lib.decDigits u).toArray⟩
theorem p45 (u : Nat) (h1 : u < 18446744073709551616) : Pure Tryz.prog 9 tabs 45 [.int .u64 u, .int .i64 10] (.string (decS u)) := by
  refine pure_of_calls Tryz.func45 name45 body45 rfl rfl fun w hT => ?_
  refine (fmt45 u h1 w (pow10_is hT)).mono ?_
  rintro e w' ⟨rfl, k, os, rfl⟩
  exact ⟨rfl, Lib.below_grow _ w (Nat.le_refl _) k os⟩

end Go.Proofs.YtcjjlajpbakaoaaGreatDoor
