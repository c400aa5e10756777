/- The library's sort at this program's indexes: what its laws ask of the dump. Conditions: none. -/
import Derived.Test.YtjdgjhaggpahkaaProg
import Derived.Shelf.SlSortCmp.NoneTotal
set_option linter.unusedVariables false
set_option linter.unusedSimpArgs false
namespace Go.Proofs.Ytjdgjhaggpahkaa
open Go.Shelf Go.RowKit Go.Lib Go.Sort
set_option maxRecDepth 100000
def sortInt_ren : Go.Shelf.Ren := ⟨fun | 6 => 42 | 15 => 50 | 14 => 49 | 28 => 60 | 29 => 61 | 20 => 51 | 21 => 53 | 22 => 54 | 23 => 55 | 24 => 56 | 25 => 57 | 26 => 58 | 27 => 59 | 46 => 63 | 47 => 64 | 48 => 65 | 49 => 66 | 50 => 67 | 57 => 69 | n => n, fun | 22 => 25 | 24 => 3 | 25 => 60 | 3 => 3 | 39 => 68 | 0 => 0 | 53 => 78 | 55 => 80 | 4 => 4 | 46 => 71 | 45 => 70 | 50 => 75 | 5 => 5 | 9 => 9 | 66 => 81 | 70 => 85 | 76 => 87 | 77 => 88 | n => n, fun | n => n⟩
theorem sortInt : Go.Proofs.SlLaysF.n6 Try.prog sortInt_ren where
 mixed := by kernel_rfl
 f6 := ⟨"slices.SortFunc[[]int,int]", by decide, Try.func42.trans (congrArg some (by kernel_rfl))⟩
 f14 := ⟨"slices.pdqsortCmpFunc[int]", by decide, Try.func49.trans (congrArg some (by kernel_rfl))⟩
 f15 := Try.func50.trans (congrArg some (by kernel_rfl))
 f20 := ⟨"slices.insertionSortCmpFunc[int]", by decide, Try.func51.trans (congrArg some (by kernel_rfl))⟩
 f21 := ⟨"slices.heapSortCmpFunc[int]", by decide, Try.func53.trans (congrArg some (by kernel_rfl))⟩
 f22 := ⟨"slices.breakPatternsCmpFunc[int]", by decide, Try.func54.trans (congrArg some (by kernel_rfl))⟩
 f23 := ⟨"slices.choosePivotCmpFunc[int]", by decide, Try.func55.trans (congrArg some (by kernel_rfl))⟩
 f24 := ⟨"slices.reverseRangeCmpFunc[int]", by decide, Try.func56.trans (congrArg some (by kernel_rfl))⟩
 f25 := ⟨"slices.partialInsertionSortCmpFunc[int]", by decide, Try.func57.trans (congrArg some (by kernel_rfl))⟩
 f26 := ⟨"slices.partitionEqualCmpFunc[int]", by decide, Try.func58.trans (congrArg some (by kernel_rfl))⟩
 f27 := ⟨"slices.partitionCmpFunc[int]", by decide, Try.func59.trans (congrArg some (by kernel_rfl))⟩
 f28 := Try.func60.trans (congrArg some (by kernel_rfl))
 f29 := Try.func61.trans (congrArg some (by kernel_rfl))
 f46 := ⟨"slices.siftDownCmpFunc[int]", by decide, Try.func63.trans (congrArg some (by kernel_rfl))⟩
 f47 := Try.func64.trans (congrArg some (by kernel_rfl))
 f48 := Try.func65.trans (congrArg some (by kernel_rfl))
 f49 := ⟨"slices.medianAdjacentCmpFunc[int]", by decide, Try.func66.trans (congrArg some (by kernel_rfl))⟩
 f50 := ⟨"slices.medianCmpFunc[int]", by decide, Try.func67.trans (congrArg some (by kernel_rfl))⟩
 f57 := ⟨"slices.order2CmpFunc[int]", by decide, Try.func69.trans (congrArg some (by kernel_rfl))⟩
 t0 := Try.underlying0
 a0 := Try.isAgg0
 z0 := Try.sizeOf0
 v0 := Try.zeroValue0
 t3 := Try.underlying3
 a3 := Try.isAgg3
 z3 := Try.sizeOf3
 v3 := Try.zeroValue3
 t4 := Try.underlying4
 a4 := Try.isAgg4
 z4 := Try.sizeOf4
 v4 := Try.zeroValue4
 t5 := Try.underlying5
 a5 := Try.isAgg5
 z5 := Try.sizeOf5
 v5 := Try.zeroValue5
 t9 := Try.underlying9
 a9 := Try.isAgg9
 z9 := Try.sizeOf9
 v9 := Try.zeroValue9
 t22 := Try.underlying25
 a22 := Try.isAgg25
 z22 := Try.sizeOf25
 v22 := Try.zeroValue25
 a24 := Try.isAgg3
 z24 := Try.sizeOf3
 t25 := Try.underlying60
 a25 := Try.isAgg60
 z25 := Try.sizeOf60
 v25 := Try.zeroValue60
 t39 := Try.underlying68
 a39 := Try.isAgg68
 z39 := Try.sizeOf68
 v39 := Try.zeroValue68
 t45 := Try.underlying70
 a45 := Try.isAgg70
 z45 := Try.sizeOf70
 v45 := Try.zeroValue70
 t46 := Try.underlying71
 a46 := Try.isAgg71
 z46 := Try.sizeOf71
 v46 := Try.zeroValue71
 t50 := Try.underlying75
 a50 := Try.isAgg75
 z50 := Try.sizeOf75
 v50 := Try.zeroValue75
 t53 := Try.underlying78
 a53 := Try.isAgg78
 z53 := Try.sizeOf78
 v53 := Try.zeroValue78
 t55 := Try.underlying80
 a55 := Try.isAgg80
 z55 := Try.sizeOf80
 v55 := Try.zeroValue80
 t66 := Try.underlying81
 a66 := Try.isAgg81
 z66 := Try.sizeOf81
 v66 := Try.zeroValue81
 t70 := Try.underlying85
 a70 := Try.isAgg85
 z70 := Try.sizeOf85
 v70 := Try.zeroValue85
 t76 := Try.underlying87
 a76 := Try.isAgg87
 z76 := Try.sizeOf87
 v76 := Try.zeroValue87
 t77 := Try.underlying88
 a77 := Try.isAgg88
 z77 := Try.sizeOf88
 v77 := Try.zeroValue88
end Go.Proofs.Ytjdgjhaggpahkaa
