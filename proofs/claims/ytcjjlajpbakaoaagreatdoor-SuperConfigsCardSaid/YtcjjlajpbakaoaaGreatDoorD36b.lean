/-
  SUPERBLOCK (chapter 36): strconv.Itoa, by the shelf's contract.
-/
import Derived.Test.YtcjjlajpbakaoaaGreatDoorD36a
import Derived.Shelf.Strconv.Itoa3
import Derived.Lib.AppendIntMem
namespace Go.Proofs.YtcjjlajpbakaoaaGreatDoor
open Go.Va Go.Shelf Go.RowKit

def ren171 : Go.Shelf.Ren where
  f := fun x => match x with
    | 171 => 44
    | 243 => 94
    | 246 => 133
    | 283 => 134
    | 284 => 135
    | 285 => 136
    | 286 => 137
    | 129 => 104
    | 317 => 165
    | 318 => 166
    | 319 => 167
    | 320 => 168
    | 337 => 183
    | 338 => 184
    | n => n
  t := fun x => match x with
    | 3 => 3
    | 9 => 9
    | 2 => 2
    | 4 => 4
    | 171 => 167
    | 0 => 0
    | 53 => 22
    | 37 => 37
    | 5 => 5
    | 173 => 169
    | 212 => 193
    | 51 => 148
    | 20 => 20
    | 213 => 194
    | 46 => 150
    | 232 => 218
    | 233 => 219
    | n => n
  g := fun x => match x with
    | 17 => 1
    | 18 => 5
    | 19 => 6
    | n => n
theorem lays171 : LaysM.n171 Tryz.prog ren171 where
  mixed := mixed
  f129 := by kernel_rfl
  f171 := by kernel_rfl
  f243 := by kernel_rfl
  f246 := by kernel_rfl
  f283 := by kernel_rfl
  f284 := by kernel_rfl
  f285 := by kernel_rfl
  f286 := by kernel_rfl
  f317 := by kernel_rfl
  f318 := by kernel_rfl
  f319 := by kernel_rfl
  f320 := by kernel_rfl
  f337 := by kernel_rfl
  f338 := by kernel_rfl
  t0 := Tryz.underlying0
  a0 := Tryz.isAgg0
  z0 := Tryz.sizeOf0
  v0 := Tryz.zeroValue0
  t2 := Tryz.underlying2
  a2 := Tryz.isAgg2
  z2 := Tryz.sizeOf2
  v2 := Tryz.zeroValue2
  t3 := Tryz.underlying3
  a3 := Tryz.isAgg3
  z3 := Tryz.sizeOf3
  v3 := Tryz.zeroValue3
  t4 := Tryz.underlying4
  a4 := Tryz.isAgg4
  z4 := Tryz.sizeOf4
  v4 := Tryz.zeroValue4
  t5 := Tryz.underlying5
  a5 := Tryz.isAgg5
  z5 := Tryz.sizeOf5
  v5 := Tryz.zeroValue5
  t9 := Tryz.underlying9
  a9 := Tryz.isAgg9
  z9 := Tryz.sizeOf9
  v9 := Tryz.zeroValue9
  t20 := Tryz.underlying20
  a20 := Tryz.isAgg20
  z20 := Tryz.sizeOf20
  v20 := Tryz.zeroValue20
  t37 := Tryz.underlying37
  a37 := Tryz.isAgg37
  z37 := Tryz.sizeOf37
  v37 := Tryz.zeroValue37
  t46 := Tryz.underlying150
  a46 := Tryz.isAgg150
  z46 := Tryz.sizeOf150
  v46 := Tryz.zeroValue150
  t51 := Tryz.underlying148
  a51 := Tryz.isAgg148
  z51 := Tryz.sizeOf148
  v51 := Tryz.zeroValue148
  t53 := Tryz.underlying22
  a53 := Tryz.isAgg22
  z53 := Tryz.sizeOf22
  v53 := Tryz.zeroValue22
  t171 := Tryz.underlying167
  a171 := Tryz.isAgg167
  z171 := Tryz.sizeOf167
  v171 := Tryz.zeroValue167
  t173 := Tryz.underlying169
  a173 := Tryz.isAgg169
  z173 := Tryz.sizeOf169
  v173 := Tryz.zeroValue169
  t212 := Tryz.underlying193
  a212 := Tryz.isAgg193
  z212 := Tryz.sizeOf193
  v212 := Tryz.zeroValue193
  t213 := Tryz.underlying194
  a213 := Tryz.isAgg194
  z213 := Tryz.sizeOf194
  t232 := Tryz.underlying218
  a232 := Tryz.isAgg218
  z232 := Tryz.sizeOf218
  v232 := Tryz.zeroValue218
  t233 := Tryz.underlying219
  a233 := Tryz.isAgg219
  z233 := Tryz.sizeOf219
  v233 := Tryz.zeroValue219
  g17 := by kernel_rfl
  g18 := by kernel_rfl
  g19 := by kernel_rfl
  i0 := by kernel_rfl
  i2 := by kernel_rfl
  i3 := by kernel_rfl
  i4 := by kernel_rfl
  i5 := by kernel_rfl
  i9 := by kernel_rfl
  i20 := by kernel_rfl
  i37 := by kernel_rfl
  i46 := by kernel_rfl
  i51 := by kernel_rfl
  i53 := by kernel_rfl
  i171 := by kernel_rfl
  i173 := by kernel_rfl
  i212 := by kernel_rfl
  i232 := by kernel_rfl
  i233 := by kernel_rfl
  m17 := by kernel_rfl
  m18 := by kernel_rfl
  m19 := by kernel_rfl

theorem globPow : Tryz.prog.globalNamed "internal/strconv.uint64pow10" = some 1 := by kernel_rfl
theorem pow10_is {w : World} (h : Tabs 9 tabs w) : Lib.TabIs Tryz.prog w "internal/strconv.uint64pow10" .u64 Lib.pow10Tab := by
  obtain ⟨C, ty, fr, h1, h2, h3⟩ := h.2 (1, pow10L.map fun n => .int .u64 n) (by simp [tabs])
  unfold Lib.TabIs World.var?
  rw [globPow, Option.bind_some, h1]
  dsimp only
  congr 1
  have e : Lib.pow10Tab = pow10L := by decide
  rw [e]
  apply Array.ext_getElem?
  intro i
  by_cases hi : i < (pow10L.map fun n => Value.int .u64 n).length
  · obtain ⟨c, hc, hv⟩ := h2 i hi
    rw [hc, hv.plain (by rw [List.getElem_map]; rfl)]
    have hi' : i < pow10L.length := by simpa using hi
    simp only [List.getElem_map, List.getElem?_toArray, List.getElem?_map]
    rw [List.getElem?_eq_getElem hi']; rfl
  · rw [Array.getElem?_eq_none (by rw [h3]; exact Nat.le_of_not_lt hi), Array.getElem?_eq_none (by simpa using hi)]

theorem name44 : (Tryz.f44.name == "runtime.NumGoroutine") = false := by kernel_rfl
theorem body44 : Tryz.f44.body.isNone = false := by kernel_rfl
def itoaV (n : Int) : Value := .string ⟨(Lib.itoa n).toArray⟩
theorem p44 (n : Int) (h0 : -9223372036854775808 ≤ n) (h1 : n ≤ 9223372036854775807) : Pure Tryz.prog 9 tabs 44 [.int .i64 n] (itoaV n) := by
  refine pure_of_calls Tryz.func44 name44 body44 rfl rfl fun w hT => ?_
  refine (Any.strconv_Itoa lays171 n h0 h1 w (pow10_is hT)).mono ?_
  rintro e w' ⟨rfl, k, os, rfl⟩
  exact ⟨rfl, Lib.below_grow _ w (Nat.le_refl _) k os⟩

end Go.Proofs.YtcjjlajpbakaoaaGreatDoor
