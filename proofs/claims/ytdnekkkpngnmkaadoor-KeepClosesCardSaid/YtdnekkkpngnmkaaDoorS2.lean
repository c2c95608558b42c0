/- slices.Sort of integers as this program has it: the library's own bodies. -/
import Derived.Test.YtdnekkkpngnmkaaDoorS1
import Derived.Shelf.Slices.In.SortNone
import Derived.Test.YtdnekkkpngnmkaaDoorProg
import Derived.KernelRfl
set_option linter.unusedVariables false
set_option maxRecDepth 100000
namespace Go.Proofs.YtdnekkkpngnmkaaDoor.E
open Go Go.Shelf Go.Sort
def laysSort_ren : Ren := ⟨(fun | 189 => 96 | 125 => 103 | 257 => 102 | 128 => 114 | 129 => 115 | 294 => 105 | 295 => 106 | 296 => 107 | 297 => 108 | 298 => 109 | 299 => 110 | 216 => 111 | 300 => 112 | 301 => 113 | 328 => 117 | 329 => 118 | 330 => 119 | 331 => 120 | 332 => 121 | 215 => 122 | 343 => 123 | n => n), (fun | 28 => 27 | 3 => 3 | 46 => 69 | 0 => 0 | 51 => 110 | 53 => 68 | 4 => 4 | 183 => 103 | 182 => 102 | 131 => 38 | 5 => 5 | 9 => 9 | 218 => 111 | 222 => 115 | 228 => 117 | 229 => 118 | n => n), fun n => n⟩
theorem laysSort : Lays.n189 Tryd.prog laysSort_ren := {
  mixed := (by kernel_rfl)
  f125 := Eq.trans Tryd.func103 (congrArg some (by kernel_rfl))
  f128 := Eq.trans Tryd.func114 (congrArg some (by kernel_rfl))
  f129 := Eq.trans Tryd.func115 (congrArg some (by kernel_rfl))
  f189 := Eq.trans Tryd.func96 (congrArg some (by kernel_rfl))
  f215 := Eq.trans Tryd.func122 (congrArg some (by kernel_rfl))
  f216 := Eq.trans Tryd.func111 (congrArg some (by kernel_rfl))
  f257 := Eq.trans Tryd.func102 (congrArg some (by kernel_rfl))
  f294 := Eq.trans Tryd.func105 (congrArg some (by kernel_rfl))
  f295 := Eq.trans Tryd.func106 (congrArg some (by kernel_rfl))
  f296 := Eq.trans Tryd.func107 (congrArg some (by kernel_rfl))
  f297 := Eq.trans Tryd.func108 (congrArg some (by kernel_rfl))
  f298 := Eq.trans Tryd.func109 (congrArg some (by kernel_rfl))
  f299 := Eq.trans Tryd.func110 (congrArg some (by kernel_rfl))
  f300 := Eq.trans Tryd.func112 (congrArg some (by kernel_rfl))
  f301 := Eq.trans Tryd.func113 (congrArg some (by kernel_rfl))
  f328 := Eq.trans Tryd.func117 (congrArg some (by kernel_rfl))
  f329 := Eq.trans Tryd.func118 (congrArg some (by kernel_rfl))
  f330 := Eq.trans Tryd.func119 (congrArg some (by kernel_rfl))
  f331 := Eq.trans Tryd.func120 (congrArg some (by kernel_rfl))
  f332 := Eq.trans Tryd.func121 (congrArg some (by kernel_rfl))
  f343 := Eq.trans Tryd.func123 (congrArg some (by kernel_rfl))
  t0 := Tryd.underlying0
  a0 := Tryd.isAgg0
  z0 := Tryd.sizeOf0
  v0 := Tryd.zeroValue0
  t3 := Tryd.underlying3
  a3 := Tryd.isAgg3
  z3 := Tryd.sizeOf3
  v3 := Tryd.zeroValue3
  t4 := Tryd.underlying4
  a4 := Tryd.isAgg4
  z4 := Tryd.sizeOf4
  v4 := Tryd.zeroValue4
  t5 := Tryd.underlying5
  a5 := Tryd.isAgg5
  z5 := Tryd.sizeOf5
  v5 := Tryd.zeroValue5
  t9 := Tryd.underlying9
  a9 := Tryd.isAgg9
  z9 := Tryd.sizeOf9
  v9 := Tryd.zeroValue9
  t28 := Tryd.underlying27
  a28 := Tryd.isAgg27
  z28 := Tryd.sizeOf27
  v28 := Tryd.zeroValue27
  t46 := Tryd.underlying69
  a46 := Tryd.isAgg69
  z46 := Tryd.sizeOf69
  v46 := Tryd.zeroValue69
  t51 := Tryd.underlying110
  a51 := Tryd.isAgg110
  z51 := Tryd.sizeOf110
  v51 := Tryd.zeroValue110
  t53 := Tryd.underlying68
  a53 := Tryd.isAgg68
  z53 := Tryd.sizeOf68
  v53 := Tryd.zeroValue68
  t131 := Tryd.underlying38
  a131 := Tryd.isAgg38
  z131 := Tryd.sizeOf38
  v131 := Tryd.zeroValue38
  t182 := Tryd.underlying102
  a182 := Tryd.isAgg102
  z182 := Tryd.sizeOf102
  v182 := Tryd.zeroValue102
  t183 := Tryd.underlying103
  a183 := Tryd.isAgg103
  z183 := Tryd.sizeOf103
  v183 := Tryd.zeroValue103
  t218 := Tryd.underlying111
  a218 := Tryd.isAgg111
  z218 := Tryd.sizeOf111
  v218 := Tryd.zeroValue111
  t222 := Tryd.underlying115
  a222 := Tryd.isAgg115
  z222 := Tryd.sizeOf115
  v222 := Tryd.zeroValue115
  t228 := Tryd.underlying117
  a228 := Tryd.isAgg117
  z228 := Tryd.sizeOf117
  v228 := Tryd.zeroValue117
  t229 := Tryd.underlying118
  a229 := Tryd.isAgg118
  z229 := Tryd.sizeOf118
  v229 := Tryd.zeroValue118 }
theorem sort_calls (args : List AV) (sto : List Row) (r : AV) (s1 : List Row) (mv : List Nat) (h : sortP args sto = some (r, s1, mv)) (ρ : Gh) (w : World) (vs : Array Value) (hS : StoOk ρ w sto) (hv : RVs ρ w args vs.toList) :
    Calls Tryd.prog 96 vs w fun e w' => ∃ v ρ', e = .returned v ∧ RV ρ' w' r v ∧ StoOk ρ' w' s1 ∧ Ext ρ w ρ' w' (mv ++ List.range' sto.length (s1.length - sto.length)) :=
  sortP_calls (fun blk off cap zs w hH hb hz => Any.slices_Sort_int laysSort blk off cap zs w hH hb hz) (fun p cap w => Any.slices_Sort_int_none laysSort p cap w) args sto r s1 mv h ρ w vs hS hv
end Go.Proofs.YtdnekkkpngnmkaaDoor.E
