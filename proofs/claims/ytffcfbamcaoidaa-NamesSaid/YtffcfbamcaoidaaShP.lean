/- The contracts of the library that this proof leans on, laid at this program. -/
import Derived.Shelf.SlGeneric
import Derived.Ground.SlgmProg
import Derived.Shelf.SortM.Plain
import Derived.Shelf.SortM.SortNone
import Derived.Test.YtffcfbamcaoidaaChecked
namespace Go.Proofs
open Go.Shelf
def Ytffcfbamcaoidaa.laysSortS_ren : Go.Shelf.Ren := ⟨fun | 6 => 97 | 8 => 108 | 9 => 107 | 19 => 124 | 20 => 125 | 21 => 115 | 22 => 116 | 23 => 117 | 24 => 118 | 25 => 119 | 26 => 120 | 27 => 121 | 28 => 122 | 29 => 123 | 36 => 128 | 31 => 129 | 32 => 130 | 37 => 131 | 38 => 132 | 39 => 133 | 41 => 134 | n => n, fun | 27 => 119 | 29 => 9 | 3 => 3 | 32 => 165 | 26 => 119 | 0 => 0 | 44 => 175 | 46 => 178 | 4 => 4 | 36 => 183 | 35 => 182 | 41 => 187 | 5 => 5 | 9 => 9 | 53 => 193 | 57 => 197 | 63 => 199 | 64 => 200 | n => n, fun | n => n⟩
theorem Ytffcfbamcaoidaa.laysSortS : Go.Proofs.SlLaysM.n6 Try.prog Ytffcfbamcaoidaa.laysSortS_ren := {
  mixed := by kernel_rfl
  f6 := ⟨Try.f97.name, by decide, Try.func97.trans (congrArg some (by kernel_rfl))⟩
  f8 := Try.func108.trans (congrArg some (by kernel_rfl))
  f9 := ⟨Try.f107.name, by decide, Try.func107.trans (congrArg some (by kernel_rfl))⟩
  f19 := Try.func124.trans (congrArg some (by kernel_rfl))
  f20 := Try.func125.trans (congrArg some (by kernel_rfl))
  f21 := ⟨Try.f115.name, by decide, Try.func115.trans (congrArg some (by kernel_rfl))⟩
  f22 := ⟨Try.f116.name, by decide, Try.func116.trans (congrArg some (by kernel_rfl))⟩
  f23 := ⟨Try.f117.name, by decide, Try.func117.trans (congrArg some (by kernel_rfl))⟩
  f24 := ⟨Try.f118.name, by decide, Try.func118.trans (congrArg some (by kernel_rfl))⟩
  f25 := ⟨Try.f119.name, by decide, Try.func119.trans (congrArg some (by kernel_rfl))⟩
  f26 := ⟨Try.f120.name, by decide, Try.func120.trans (congrArg some (by kernel_rfl))⟩
  f27 := ⟨Try.f121.name, by decide, Try.func121.trans (congrArg some (by kernel_rfl))⟩
  f28 := ⟨Try.f122.name, by decide, Try.func122.trans (congrArg some (by kernel_rfl))⟩
  f29 := ⟨Try.f123.name, by decide, Try.func123.trans (congrArg some (by kernel_rfl))⟩
  f31 := Try.func129.trans (congrArg some (by kernel_rfl))
  f32 := Try.func130.trans (congrArg some (by kernel_rfl))
  f36 := ⟨Try.f128.name, by decide, Try.func128.trans (congrArg some (by kernel_rfl))⟩
  f37 := ⟨Try.f131.name, by decide, Try.func131.trans (congrArg some (by kernel_rfl))⟩
  f38 := ⟨Try.f132.name, by decide, Try.func132.trans (congrArg some (by kernel_rfl))⟩
  f39 := ⟨Try.f133.name, by decide, Try.func133.trans (congrArg some (by kernel_rfl))⟩
  f41 := ⟨Try.f134.name, by decide, Try.func134.trans (congrArg some (by kernel_rfl))⟩
  t0 := Try.underlying0
  a0 := Try.isAgg0
  z0 := Try.sizeOf0
  v0 := Try.zeroValue0
  t3 := Try.underlying3
  a3 := Try.isAgg3
  z3 := Try.sizeOf3
  v3 := Try.zeroValue3
  t4 := Try.underlying4
  a4 := Try.isAgg4
  z4 := Try.sizeOf4
  v4 := Try.zeroValue4
  t5 := Try.underlying5
  a5 := Try.isAgg5
  z5 := Try.sizeOf5
  v5 := Try.zeroValue5
  t9 := Try.underlying9
  a9 := Try.isAgg9
  z9 := Try.sizeOf9
  v9 := Try.zeroValue9
  t26 := Try.underlying119
  a26 := Try.isAgg119
  z26 := Try.sizeOf119
  v26 := Try.zeroValue119
  t27 := Try.underlying119
  a27 := Try.isAgg119
  z27 := Try.sizeOf119
  v27 := Try.zeroValue119
  t29 := Try.underlying9
  a29 := Try.isAgg9
  z29 := Try.sizeOf9
  v29 := Try.zeroValue9
  t32 := Try.underlying165
  a32 := Try.isAgg165
  z32 := Try.sizeOf165
  v32 := Try.zeroValue165
  t35 := Try.underlying182
  a35 := Try.isAgg182
  z35 := Try.sizeOf182
  v35 := Try.zeroValue182
  t36 := Try.underlying183
  a36 := Try.isAgg183
  z36 := Try.sizeOf183
  v36 := Try.zeroValue183
  t41 := Try.underlying187
  a41 := Try.isAgg187
  z41 := Try.sizeOf187
  v41 := Try.zeroValue187
  t44 := Try.underlying175
  a44 := Try.isAgg175
  z44 := Try.sizeOf175
  v44 := Try.zeroValue175
  t46 := Try.underlying178
  a46 := Try.isAgg178
  z46 := Try.sizeOf178
  v46 := Try.zeroValue178
  t53 := Try.underlying193
  a53 := Try.isAgg193
  z53 := Try.sizeOf193
  v53 := Try.zeroValue193
  t57 := Try.underlying197
  a57 := Try.isAgg197
  z57 := Try.sizeOf197
  v57 := Try.zeroValue197
  t63 := Try.underlying199
  a63 := Try.isAgg199
  z63 := Try.sizeOf199
  v63 := Try.zeroValue199
  t64 := Try.underlying200
  a64 := Try.isAgg200
  z64 := Try.sizeOf200
  v64 := Try.zeroValue200 }
end Go.Proofs
