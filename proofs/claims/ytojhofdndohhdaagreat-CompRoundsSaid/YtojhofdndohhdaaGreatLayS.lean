/- Where Collect and the iterators over a map's keys of the library stand in the program. -/
import Derived.Shelf.SlLaysZ
import Derived.Test.YtojhofdndohhdaaGreatRows
set_option linter.unusedVariables false
namespace Go.Proofs.YtojhofdndohhdaaGreat.Lay
open Go Go.Proofs Go.Shelf
def collS_ren : Go.Shelf.Ren := ⟨fun | 8 => 194 | 11 => 250 | n => n, fun | 26 => 9 | 28 => 305 | 24 => 23 | 0 => 0 | 33 => 103 | 4 => 4 | n => n, fun | n => n⟩
theorem collS : Go.Proofs.SlLaysZ.n8 Tryz.prog collS_ren where
  mixed := by kernel_rfl
  f8 := ⟨ "slices.Collect[string]", by decide, Tryz.func194.trans (congrArg some (by kernel_rfl))⟩
  f11 := ⟨ "slices.AppendSeq[[]string,string]", by decide, Tryz.func250.trans (congrArg some (by kernel_rfl))⟩
  t0 := Tryz.underlying0
  a0 := Tryz.isAgg0
  z0 := Tryz.sizeOf0
  v0 := Tryz.zeroValue0
  t24 := Tryz.underlying23
  a24 := Tryz.isAgg23
  z24 := Tryz.sizeOf23
  v24 := Tryz.zeroValue23
  t26 := Tryz.underlying9
  a26 := Tryz.isAgg9
  z26 := Tryz.sizeOf9
  v26 := Tryz.zeroValue9
  t28 := Tryz.underlying305
  a28 := Tryz.isAgg305
  z28 := Tryz.sizeOf305
  v28 := Tryz.zeroValue305
  i26 := by kernel_rfl
def keys251_ren : Go.Shelf.Ren := ⟨fun | 10 => 251 | n => n, fun | 33 => 103 | 23 => 300 | 0 => 0 | 4 => 4 | 26 => 9 | 3 => 43 | n => n, fun | n => n⟩
theorem keys251 : Go.Proofs.SlLaysZ.n10 Tryz.prog keys251_ren where
  mixed := by kernel_rfl
  f10 := ⟨ "maps.Keys[map[string]augur/api.Ival,string,augur/api.Ival]$1", by decide, Tryz.func251.trans (congrArg some (by kernel_rfl))⟩
  t0 := Tryz.underlying0
  a0 := Tryz.isAgg0
  z0 := Tryz.sizeOf0
  v0 := Tryz.zeroValue0
  t4 := Tryz.underlying4
  a4 := Tryz.isAgg4
  z4 := Tryz.sizeOf4
  v4 := Tryz.zeroValue4
  t23 := Tryz.underlying300
  a23 := Tryz.isAgg300
  z23 := Tryz.sizeOf300
  v23 := Tryz.zeroValue300
  t26 := Tryz.underlying9
  a26 := Tryz.isAgg9
  z26 := Tryz.sizeOf9
  v26 := Tryz.zeroValue9
  t33 := Tryz.underlying103
  a33 := Tryz.isAgg103
  z33 := Tryz.sizeOf103
  v33 := Tryz.zeroValue103
def keys316_ren : Go.Shelf.Ren := ⟨fun | 10 => 316 | n => n, fun | 33 => 103 | 23 => 256 | 0 => 0 | 4 => 4 | 26 => 9 | 3 => 345 | n => n, fun | n => n⟩
theorem keys316 : Go.Proofs.SlLaysZ.n10 Tryz.prog keys316_ren where
  mixed := by kernel_rfl
  f10 := ⟨ "maps.Keys[map[string]struct{},string,struct{}]$1", by decide, Tryz.func316.trans (congrArg some (by kernel_rfl))⟩
  t0 := Tryz.underlying0
  a0 := Tryz.isAgg0
  z0 := Tryz.sizeOf0
  v0 := Tryz.zeroValue0
  t4 := Tryz.underlying4
  a4 := Tryz.isAgg4
  z4 := Tryz.sizeOf4
  v4 := Tryz.zeroValue4
  t23 := Tryz.underlying256
  a23 := Tryz.isAgg256
  z23 := Tryz.sizeOf256
  v23 := Tryz.zeroValue256
  t26 := Tryz.underlying9
  a26 := Tryz.isAgg9
  z26 := Tryz.sizeOf9
  v26 := Tryz.zeroValue9
  t33 := Tryz.underlying103
  a33 := Tryz.isAgg103
  z33 := Tryz.sizeOf103
  v33 := Tryz.zeroValue103
end Go.Proofs.YtojhofdndohhdaaGreat.Lay
