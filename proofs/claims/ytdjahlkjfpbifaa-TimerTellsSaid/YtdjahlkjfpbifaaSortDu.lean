
/-
  slices.SortFunc at timer.Due: the library's own contract at this program (written by the kit's shelf tool).
-/
import Derived.Shelf.SlSortCmp.WholeK
import Derived.Test.YtdjahlkjfpbifaaFrame
namespace Go.Proofs.Ytdjahlkjfpbifaa
open Go.Shelf
def sortDu_ren : Go.Shelf.Ren := ⟨fun | 6 => 106 | 15 => 103 | 14 => 149 | 28 => 146 | 29 => 147 | 20 => 177 | 21 => 178 | 22 => 179 | 23 => 180 | 24 => 181 | 25 => 182 | 26 => 183 | 27 => 184 | 46 => 190 | 47 => 172 | 48 => 173 | 49 => 191 | 50 => 192 | 57 => 195 | n => n, fun | 22 => 126 | 24 => 139 | 25 => 215 | 3 => 3 | 39 => 71 | 0 => 0 | 53 => 250 | 55 => 90 | 4 => 4 | 46 => 244 | 45 => 243 | 50 => 178 | 5 => 5 | 9 => 9 | 66 => 267 | 70 => 271 | 76 => 282 | 77 => 83 | n => n, fun | n => n⟩
theorem sortDu_lays : Go.Proofs.SlLaysF0.n6 Try.prog sortDu_ren := {
  mixed := by kernel_rfl
  f6 := ⟨Try.f106.name, by decide, Try.func106.trans (congrArg some (by kernel_rfl))⟩
  f14 := ⟨Try.f149.name, by decide, Try.func149.trans (congrArg some (by kernel_rfl))⟩
  f15 := Try.func103.trans (congrArg some (by kernel_rfl))
  f20 := ⟨Try.f177.name, by decide, Try.func177.trans (congrArg some (by kernel_rfl))⟩
  f21 := ⟨Try.f178.name, by decide, Try.func178.trans (congrArg some (by kernel_rfl))⟩
  f22 := ⟨Try.f179.name, by decide, Try.func179.trans (congrArg some (by kernel_rfl))⟩
  f23 := ⟨Try.f180.name, by decide, Try.func180.trans (congrArg some (by kernel_rfl))⟩
  f24 := ⟨Try.f181.name, by decide, Try.func181.trans (congrArg some (by kernel_rfl))⟩
  f25 := ⟨Try.f182.name, by decide, Try.func182.trans (congrArg some (by kernel_rfl))⟩
  f26 := ⟨Try.f183.name, by decide, Try.func183.trans (congrArg some (by kernel_rfl))⟩
  f27 := ⟨Try.f184.name, by decide, Try.func184.trans (congrArg some (by kernel_rfl))⟩
  f28 := Try.func146.trans (congrArg some (by kernel_rfl))
  f29 := Try.func147.trans (congrArg some (by kernel_rfl))
  f46 := ⟨Try.f190.name, by decide, Try.func190.trans (congrArg some (by kernel_rfl))⟩
  f47 := Try.func172.trans (congrArg some (by kernel_rfl))
  f48 := Try.func173.trans (congrArg some (by kernel_rfl))
  f49 := ⟨Try.f191.name, by decide, Try.func191.trans (congrArg some (by kernel_rfl))⟩
  f50 := ⟨Try.f192.name, by decide, Try.func192.trans (congrArg some (by kernel_rfl))⟩
  f57 := ⟨Try.f195.name, by decide, Try.func195.trans (congrArg some (by kernel_rfl))⟩
  t0 := Try.underlying0
  a0 := Try.isAgg0
  z0 := Try.sizeOf0
  v0 := Try.zeroValue0
  t3 := Try.underlying3
  a3 := Try.isAgg3
  z3 := Try.sizeOf3
  v3 := Try.zeroValue3
  t4 := Try.underlying4
  a4 := Try.isAgg4
  z4 := Try.sizeOf4
  v4 := Try.zeroValue4
  t5 := Try.underlying5
  a5 := Try.isAgg5
  z5 := Try.sizeOf5
  v5 := Try.zeroValue5
  t9 := Try.underlying9
  a9 := Try.isAgg9
  z9 := Try.sizeOf9
  v9 := Try.zeroValue9
  t22 := Try.underlying126
  a22 := Try.isAgg126
  z22 := Try.sizeOf126
  v22 := Try.zeroValue126
  t25 := Try.underlying215
  a25 := Try.isAgg215
  z25 := Try.sizeOf215
  v25 := Try.zeroValue215
  t39 := Try.underlying71
  a39 := Try.isAgg71
  z39 := Try.sizeOf71
  v39 := Try.zeroValue71
  t45 := Try.underlying243
  a45 := Try.isAgg243
  z45 := Try.sizeOf243
  v45 := Try.zeroValue243
  t46 := Try.underlying244
  a46 := Try.isAgg244
  z46 := Try.sizeOf244
  v46 := Try.zeroValue244
  t50 := Try.underlying178
  a50 := Try.isAgg178
  z50 := Try.sizeOf178
  v50 := Try.zeroValue178
  t53 := Try.underlying250
  a53 := Try.isAgg250
  z53 := Try.sizeOf250
  v53 := Try.zeroValue250
  t55 := Try.underlying90
  a55 := Try.isAgg90
  z55 := Try.sizeOf90
  v55 := Try.zeroValue90
  t66 := Try.underlying267
  a66 := Try.isAgg267
  z66 := Try.sizeOf267
  v66 := Try.zeroValue267
  t70 := Try.underlying271
  a70 := Try.isAgg271
  z70 := Try.sizeOf271
  v70 := Try.zeroValue271
  t76 := Try.underlying282
  a76 := Try.isAgg282
  z76 := Try.sizeOf282
  v76 := Try.zeroValue282
  t77 := Try.underlying83
  a77 := Try.isAgg83
  z77 := Try.sizeOf83
  v77 := Try.zeroValue83 }
end Go.Proofs.Ytdjahlkjfpbifaa
