
/-
  slices.Sort at ints: the library's own contract at this program (written by the kit's shelf tool).
-/
import Derived.Shelf.Sort.Plain
import Derived.Shelf.Slices.In.SortNone
import Derived.Test.YtdjahlkjfpbifaaFrame
namespace Go.Proofs.Ytdjahlkjfpbifaa
open Go.Shelf
def sortI_ren : Go.Shelf.Ren := ⟨fun | 189 => 54 | 125 => 103 | 257 => 102 | 128 => 146 | 129 => 147 | 294 => 137 | 295 => 138 | 296 => 139 | 297 => 140 | 298 => 141 | 299 => 142 | 216 => 143 | 300 => 144 | 301 => 145 | 328 => 171 | 329 => 172 | 330 => 173 | 331 => 174 | 332 => 175 | 215 => 176 | 343 => 189 | n => n, fun | 28 => 55 | 3 => 3 | 46 => 71 | 0 => 0 | 51 => 250 | 53 => 90 | 4 => 4 | 183 => 244 | 182 => 243 | 131 => 178 | 5 => 5 | 9 => 9 | 218 => 267 | 222 => 271 | 228 => 282 | 229 => 83 | n => n, fun | n => n⟩
theorem sortI_lays : Go.Proofs.Lays.n189 Try.prog sortI_ren := {
  mixed := by kernel_rfl
  f125 := Try.func103.trans (congrArg some (by kernel_rfl))
  f128 := Try.func146.trans (congrArg some (by kernel_rfl))
  f129 := Try.func147.trans (congrArg some (by kernel_rfl))
  f189 := Try.func54.trans (congrArg some (by kernel_rfl))
  f215 := Try.func176.trans (congrArg some (by kernel_rfl))
  f216 := Try.func143.trans (congrArg some (by kernel_rfl))
  f257 := Try.func102.trans (congrArg some (by kernel_rfl))
  f294 := Try.func137.trans (congrArg some (by kernel_rfl))
  f295 := Try.func138.trans (congrArg some (by kernel_rfl))
  f296 := Try.func139.trans (congrArg some (by kernel_rfl))
  f297 := Try.func140.trans (congrArg some (by kernel_rfl))
  f298 := Try.func141.trans (congrArg some (by kernel_rfl))
  f299 := Try.func142.trans (congrArg some (by kernel_rfl))
  f300 := Try.func144.trans (congrArg some (by kernel_rfl))
  f301 := Try.func145.trans (congrArg some (by kernel_rfl))
  f328 := Try.func171.trans (congrArg some (by kernel_rfl))
  f329 := Try.func172.trans (congrArg some (by kernel_rfl))
  f330 := Try.func173.trans (congrArg some (by kernel_rfl))
  f331 := Try.func174.trans (congrArg some (by kernel_rfl))
  f332 := Try.func175.trans (congrArg some (by kernel_rfl))
  f343 := Try.func189.trans (congrArg some (by kernel_rfl))
  t0 := Try.underlying0
  a0 := Try.isAgg0
  z0 := Try.sizeOf0
  v0 := Try.zeroValue0
  t3 := Try.underlying3
  a3 := Try.isAgg3
  z3 := Try.sizeOf3
  v3 := Try.zeroValue3
  t4 := Try.underlying4
  a4 := Try.isAgg4
  z4 := Try.sizeOf4
  v4 := Try.zeroValue4
  t5 := Try.underlying5
  a5 := Try.isAgg5
  z5 := Try.sizeOf5
  v5 := Try.zeroValue5
  t9 := Try.underlying9
  a9 := Try.isAgg9
  z9 := Try.sizeOf9
  v9 := Try.zeroValue9
  t28 := Try.underlying55
  a28 := Try.isAgg55
  z28 := Try.sizeOf55
  v28 := Try.zeroValue55
  t46 := Try.underlying71
  a46 := Try.isAgg71
  z46 := Try.sizeOf71
  v46 := Try.zeroValue71
  t51 := Try.underlying250
  a51 := Try.isAgg250
  z51 := Try.sizeOf250
  v51 := Try.zeroValue250
  t53 := Try.underlying90
  a53 := Try.isAgg90
  z53 := Try.sizeOf90
  v53 := Try.zeroValue90
  t131 := Try.underlying178
  a131 := Try.isAgg178
  z131 := Try.sizeOf178
  v131 := Try.zeroValue178
  t182 := Try.underlying243
  a182 := Try.isAgg243
  z182 := Try.sizeOf243
  v182 := Try.zeroValue243
  t183 := Try.underlying244
  a183 := Try.isAgg244
  z183 := Try.sizeOf244
  v183 := Try.zeroValue244
  t218 := Try.underlying267
  a218 := Try.isAgg267
  z218 := Try.sizeOf267
  v218 := Try.zeroValue267
  t222 := Try.underlying271
  a222 := Try.isAgg271
  z222 := Try.sizeOf271
  v222 := Try.zeroValue271
  t228 := Try.underlying282
  a228 := Try.isAgg282
  z228 := Try.sizeOf282
  v228 := Try.zeroValue282
  t229 := Try.underlying83
  a229 := Try.isAgg83
  z229 := Try.sizeOf83
  v229 := Try.zeroValue83 }
open Go.Sort Go.RowKit in
theorem sortI_any (blk off cap : Nat) (zs : List Int) (w : World) (hH : Holds (Value.int .i64) w blk off zs.toArray) (hblk : blk < w.heap.size) (hsz : zs.length < 4611686018427387904) :
    Calls Try.prog 54 #[.slice (some ⟨blk, off, none⟩) zs.length cap] w fun e w' =>
      e = .returned (.tuple #[]) ∧ ∃ n os, w' = grow (putRow (Value.int .i64) (Sort.ahead w n) blk off (zs.mergeSort fun x y => decide (x ≤ y)).toArray) os := Any.slices_Sort_int sortI_lays blk off cap zs w hH hblk hsz
open Go.RowKit Go.Sort in
/-- .. and plain. (LAID: no walk: one application.) -/
theorem sortI_none (p : Option Addr) (cap : Nat) (w : World) :
    Calls Try.prog 54 #[.slice p 0 cap] w fun e w' => e = .returned (.tuple #[]) ∧ w' = w := Any.slices_Sort_int_none sortI_lays p cap w
end Go.Proofs.Ytdjahlkjfpbifaa
