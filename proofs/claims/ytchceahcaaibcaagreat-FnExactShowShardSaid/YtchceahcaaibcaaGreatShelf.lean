/-
  DERIVED: THE SHELF's CONTRACTS AT THIS DUMP, IN PLAIN WORDS (tools/lay-plain.mjs out of 'TryzShelf.lean', which tools/lay-shelf.mjs wrote): THE SAME DECLARATIONS UNDER THE SAME NAMES: 'import', 'namespace', 'open', 'def', 'theorem' AND NOTHING ELSE: no command of the shelf's: FOR A HAND-IN. Each laying: the table of numbers ('.._ren') and one theorem, a field a fact of the dump's own or the kernel's comparison; each contract: ONE APPLICATION.
-/
import Derived.Shelf.Sort.Plain
import Derived.Shelf.Slices.In.SortNone
import Derived.Shelf.Slices.CompactI
import Derived.Shelf.Slices.Clone
import Derived.Shelf.Spec.SlicesGrow
import Derived.Test.YtchceahcaaibcaaGreatProg
namespace Go.Proofs
open Go.Shelf
def Tryz.lays189_ren : Go.Shelf.Ren := ⟨fun | 189 => 174 | 125 => 269 | 257 => 268 | 128 => 319 | 129 => 320 | 294 => 310 | 295 => 311 | 296 => 312 | 297 => 313 | 298 => 314 | 299 => 315 | 216 => 316 | 300 => 317 | 301 => 318 | 328 => 337 | 329 => 338 | 330 => 339 | 331 => 340 | 332 => 341 | 215 => 342 | 343 => 347 | n => n, fun | 28 => 30 | 3 => 3 | 46 => 272 | 0 => 0 | 51 => 328 | 53 => 330 | 4 => 4 | 183 => 322 | 182 => 321 | 131 => 219 | 5 => 5 | 9 => 9 | 218 => 342 | 222 => 346 | 228 => 352 | 229 => 353 | n => n, fun | n => n⟩
theorem Tryz.lays189 : Go.Proofs.Lays.n189 Tryz.prog Tryz.lays189_ren := {
  mixed := by kernel_rfl
  f125 := Tryz.func269.trans (congrArg some (by kernel_rfl))
  f128 := Tryz.func319.trans (congrArg some (by kernel_rfl))
  f129 := Tryz.func320.trans (congrArg some (by kernel_rfl))
  f189 := Tryz.func174.trans (congrArg some (by kernel_rfl))
  f215 := Tryz.func342.trans (congrArg some (by kernel_rfl))
  f216 := Tryz.func316.trans (congrArg some (by kernel_rfl))
  f257 := Tryz.func268.trans (congrArg some (by kernel_rfl))
  f294 := Tryz.func310.trans (congrArg some (by kernel_rfl))
  f295 := Tryz.func311.trans (congrArg some (by kernel_rfl))
  f296 := Tryz.func312.trans (congrArg some (by kernel_rfl))
  f297 := Tryz.func313.trans (congrArg some (by kernel_rfl))
  f298 := Tryz.func314.trans (congrArg some (by kernel_rfl))
  f299 := Tryz.func315.trans (congrArg some (by kernel_rfl))
  f300 := Tryz.func317.trans (congrArg some (by kernel_rfl))
  f301 := Tryz.func318.trans (congrArg some (by kernel_rfl))
  f328 := Tryz.func337.trans (congrArg some (by kernel_rfl))
  f329 := Tryz.func338.trans (congrArg some (by kernel_rfl))
  f330 := Tryz.func339.trans (congrArg some (by kernel_rfl))
  f331 := Tryz.func340.trans (congrArg some (by kernel_rfl))
  f332 := Tryz.func341.trans (congrArg some (by kernel_rfl))
  f343 := Tryz.func347.trans (congrArg some (by kernel_rfl))
  t0 := Tryz.underlying0
  a0 := Tryz.isAgg0
  z0 := Tryz.sizeOf0
  v0 := Tryz.zeroValue0
  t3 := Tryz.underlying3
  a3 := Tryz.isAgg3
  z3 := Tryz.sizeOf3
  v3 := Tryz.zeroValue3
  t4 := Tryz.underlying4
  a4 := Tryz.isAgg4
  z4 := Tryz.sizeOf4
  v4 := Tryz.zeroValue4
  t5 := Tryz.underlying5
  a5 := Tryz.isAgg5
  z5 := Tryz.sizeOf5
  v5 := Tryz.zeroValue5
  t9 := Tryz.underlying9
  a9 := Tryz.isAgg9
  z9 := Tryz.sizeOf9
  v9 := Tryz.zeroValue9
  t28 := Tryz.underlying30
  a28 := Tryz.isAgg30
  z28 := Tryz.sizeOf30
  v28 := Tryz.zeroValue30
  t46 := Tryz.underlying272
  a46 := Tryz.isAgg272
  z46 := Tryz.sizeOf272
  v46 := Tryz.zeroValue272
  t51 := Tryz.underlying328
  a51 := Tryz.isAgg328
  z51 := Tryz.sizeOf328
  v51 := Tryz.zeroValue328
  t53 := Tryz.underlying330
  a53 := Tryz.isAgg330
  z53 := Tryz.sizeOf330
  v53 := Tryz.zeroValue330
  t131 := Tryz.underlying219
  a131 := Tryz.isAgg219
  z131 := Tryz.sizeOf219
  v131 := Tryz.zeroValue219
  t182 := Tryz.underlying321
  a182 := Tryz.isAgg321
  z182 := Tryz.sizeOf321
  v182 := Tryz.zeroValue321
  t183 := Tryz.underlying322
  a183 := Tryz.isAgg322
  z183 := Tryz.sizeOf322
  v183 := Tryz.zeroValue322
  t218 := Tryz.underlying342
  a218 := Tryz.isAgg342
  z218 := Tryz.sizeOf342
  v218 := Tryz.zeroValue342
  t222 := Tryz.underlying346
  a222 := Tryz.isAgg346
  z222 := Tryz.sizeOf346
  v222 := Tryz.zeroValue346
  t228 := Tryz.underlying352
  a228 := Tryz.isAgg352
  z228 := Tryz.sizeOf352
  v228 := Tryz.zeroValue352
  t229 := Tryz.underlying353
  a229 := Tryz.isAgg353
  z229 := Tryz.sizeOf353
  v229 := Tryz.zeroValue353 }
def Tryz.laysNm220_ren : Go.Shelf.Ren := ⟨fun | 20 => 175 | n => n, fun | 22 => 30 | 3 => 3 | 4 => 4 | 0 => 0 | n => n, fun | n => n⟩
theorem Tryz.laysNm220 : Go.Proofs.Lays2.n20 Tryz.prog Tryz.laysNm220_ren := {
  mixed := by kernel_rfl
  f20 := Tryz.func175.trans (congrArg some (by kernel_rfl))
  t0 := Tryz.underlying0
  a0 := Tryz.isAgg0
  z0 := Tryz.sizeOf0
  v0 := Tryz.zeroValue0
  t3 := Tryz.underlying3
  a3 := Tryz.isAgg3
  z3 := Tryz.sizeOf3
  v3 := Tryz.zeroValue3
  t4 := Tryz.underlying4
  a4 := Tryz.isAgg4
  z4 := Tryz.sizeOf4
  v4 := Tryz.zeroValue4
  t22 := Tryz.underlying30
  a22 := Tryz.isAgg30
  z22 := Tryz.sizeOf30
  v22 := Tryz.zeroValue30
  i3 := by kernel_rfl }
def Tryz.laysNm215_ren : Go.Shelf.Ren := ⟨fun | 15 => 176 | n => n, fun | 22 => 30 | 3 => 3 | 4 => 4 | n => n, fun | n => n⟩
theorem Tryz.laysNm215 : Go.Proofs.Lays2.n15 Tryz.prog Tryz.laysNm215_ren := {
  mixed := by kernel_rfl
  f15 := Tryz.func176.trans (congrArg some (by kernel_rfl))
  t3 := Tryz.underlying3
  a3 := Tryz.isAgg3
  z3 := Tryz.sizeOf3
  v3 := Tryz.zeroValue3
  t4 := Tryz.underlying4
  a4 := Tryz.isAgg4
  z4 := Tryz.sizeOf4
  v4 := Tryz.zeroValue4
  t22 := Tryz.underlying30
  a22 := Tryz.isAgg30
  z22 := Tryz.sizeOf30
  v22 := Tryz.zeroValue30
  i3 := by kernel_rfl }
def Tryz.growI_ren : Go.Shelf.Ren := ⟨fun | 4 => 266 | n => n, fun | 22 => 30 | 25 => 3 | 3 => 3 | 4 => 4 | 9 => 9 | 20 => 20 | 0 => 0 | n => n, fun | n => n⟩
theorem Tryz.growI : Go.Proofs.Lays8.n4 Tryz.prog Tryz.growI_ren := {
  mixed := by kernel_rfl
  f4 := ⟨Tryz.f266.name, by decide, Tryz.func266.trans (congrArg some (by kernel_rfl))⟩
  t0 := Tryz.underlying0
  a0 := Tryz.isAgg0
  z0 := Tryz.sizeOf0
  v0 := Tryz.zeroValue0
  t3 := Tryz.underlying3
  a3 := Tryz.isAgg3
  z3 := Tryz.sizeOf3
  v3 := Tryz.zeroValue3
  t4 := Tryz.underlying4
  a4 := Tryz.isAgg4
  z4 := Tryz.sizeOf4
  v4 := Tryz.zeroValue4
  t9 := Tryz.underlying9
  a9 := Tryz.isAgg9
  z9 := Tryz.sizeOf9
  v9 := Tryz.zeroValue9
  t20 := Tryz.underlying20
  a20 := Tryz.isAgg20
  z20 := Tryz.sizeOf20
  v20 := Tryz.zeroValue20
  t22 := Tryz.underlying30
  a22 := Tryz.isAgg30
  z22 := Tryz.sizeOf30
  v22 := Tryz.zeroValue30 }
end Go.Proofs
