/- slices.Sort of integers as this program has it: the library's own bodies. -/
import Derived.Test.YtabdcfcnngnnoaaDoorS1
import Derived.Shelf.Slices.In.SortNone
import Derived.Test.YtabdcfcnngnnoaaDoorProg
import Derived.KernelRfl
set_option linter.unusedVariables false
set_option maxRecDepth 100000
namespace Go.Proofs.YtabdcfcnngnnoaaDoor.E
open Go Go.Shelf Go.Sort
def laysSort_ren : Ren := ⟨(fun | 189 => 52 | 125 => 70 | 257 => 69 | 128 => 95 | 129 => 96 | 294 => 86 | 295 => 87 | 296 => 88 | 297 => 89 | 298 => 90 | 299 => 91 | 216 => 92 | 300 => 93 | 301 => 94 | 328 => 102 | 329 => 103 | 330 => 104 | 331 => 105 | 332 => 106 | 215 => 107 | 343 => 109 | n => n), (fun | 28 => 27 | 3 => 3 | 46 => 80 | 0 => 0 | 51 => 106 | 53 => 74 | 4 => 4 | 183 => 100 | 182 => 99 | 131 => 90 | 5 => 5 | 9 => 9 | 218 => 108 | 222 => 112 | 228 => 115 | 229 => 116 | n => n), fun n => n⟩
theorem laysSort : Lays.n189 Tryd.prog laysSort_ren := {
  mixed := (by kernel_rfl)
  f125 := Eq.trans Tryd.func70 (congrArg some (by kernel_rfl))
  f128 := Eq.trans Tryd.func95 (congrArg some (by kernel_rfl))
  f129 := Eq.trans Tryd.func96 (congrArg some (by kernel_rfl))
  f189 := Eq.trans Tryd.func52 (congrArg some (by kernel_rfl))
  f215 := Eq.trans Tryd.func107 (congrArg some (by kernel_rfl))
  f216 := Eq.trans Tryd.func92 (congrArg some (by kernel_rfl))
  f257 := Eq.trans Tryd.func69 (congrArg some (by kernel_rfl))
  f294 := Eq.trans Tryd.func86 (congrArg some (by kernel_rfl))
  f295 := Eq.trans Tryd.func87 (congrArg some (by kernel_rfl))
  f296 := Eq.trans Tryd.func88 (congrArg some (by kernel_rfl))
  f297 := Eq.trans Tryd.func89 (congrArg some (by kernel_rfl))
  f298 := Eq.trans Tryd.func90 (congrArg some (by kernel_rfl))
  f299 := Eq.trans Tryd.func91 (congrArg some (by kernel_rfl))
  f300 := Eq.trans Tryd.func93 (congrArg some (by kernel_rfl))
  f301 := Eq.trans Tryd.func94 (congrArg some (by kernel_rfl))
  f328 := Eq.trans Tryd.func102 (congrArg some (by kernel_rfl))
  f329 := Eq.trans Tryd.func103 (congrArg some (by kernel_rfl))
  f330 := Eq.trans Tryd.func104 (congrArg some (by kernel_rfl))
  f331 := Eq.trans Tryd.func105 (congrArg some (by kernel_rfl))
  f332 := Eq.trans Tryd.func106 (congrArg some (by kernel_rfl))
  f343 := Eq.trans Tryd.func109 (congrArg some (by kernel_rfl))
  t0 := Tryd.underlying0
  a0 := Tryd.isAgg0
  z0 := Tryd.sizeOf0
  v0 := Tryd.zeroValue0
  t3 := Tryd.underlying3
  a3 := Tryd.isAgg3
  z3 := Tryd.sizeOf3
  v3 := Tryd.zeroValue3
  t4 := Tryd.underlying4
  a4 := Tryd.isAgg4
  z4 := Tryd.sizeOf4
  v4 := Tryd.zeroValue4
  t5 := Tryd.underlying5
  a5 := Tryd.isAgg5
  z5 := Tryd.sizeOf5
  v5 := Tryd.zeroValue5
  t9 := Tryd.underlying9
  a9 := Tryd.isAgg9
  z9 := Tryd.sizeOf9
  v9 := Tryd.zeroValue9
  t28 := Tryd.underlying27
  a28 := Tryd.isAgg27
  z28 := Tryd.sizeOf27
  v28 := Tryd.zeroValue27
  t46 := Tryd.underlying80
  a46 := Tryd.isAgg80
  z46 := Tryd.sizeOf80
  v46 := Tryd.zeroValue80
  t51 := Tryd.underlying106
  a51 := Tryd.isAgg106
  z51 := Tryd.sizeOf106
  v51 := Tryd.zeroValue106
  t53 := Tryd.underlying74
  a53 := Tryd.isAgg74
  z53 := Tryd.sizeOf74
  v53 := Tryd.zeroValue74
  t131 := Tryd.underlying90
  a131 := Tryd.isAgg90
  z131 := Tryd.sizeOf90
  v131 := Tryd.zeroValue90
  t182 := Tryd.underlying99
  a182 := Tryd.isAgg99
  z182 := Tryd.sizeOf99
  v182 := Tryd.zeroValue99
  t183 := Tryd.underlying100
  a183 := Tryd.isAgg100
  z183 := Tryd.sizeOf100
  v183 := Tryd.zeroValue100
  t218 := Tryd.underlying108
  a218 := Tryd.isAgg108
  z218 := Tryd.sizeOf108
  v218 := Tryd.zeroValue108
  t222 := Tryd.underlying112
  a222 := Tryd.isAgg112
  z222 := Tryd.sizeOf112
  v222 := Tryd.zeroValue112
  t228 := Tryd.underlying115
  a228 := Tryd.isAgg115
  z228 := Tryd.sizeOf115
  v228 := Tryd.zeroValue115
  t229 := Tryd.underlying116
  a229 := Tryd.isAgg116
  z229 := Tryd.sizeOf116
  v229 := Tryd.zeroValue116 }
theorem sort_calls (args : List AV) (sto : List Row) (r : AV) (s1 : List Row) (mv : List Nat) (h : sortP args sto = some (r, s1, mv)) (ρ : Gh) (w : World) (vs : Array Value) (hS : StoOk ρ w sto) (hv : RVs ρ w args vs.toList) :
    Calls Tryd.prog 52 vs w fun e w' => ∃ v ρ', e = .returned v ∧ RV ρ' w' r v ∧ StoOk ρ' w' s1 ∧ Ext ρ w ρ' w' (mv ++ List.range' sto.length (s1.length - sto.length)) :=
  sortP_calls (fun blk off cap zs w hH hb hz => Any.slices_Sort_int laysSort blk off cap zs w hH hb hz) (fun p cap w => Any.slices_Sort_int_none laysSort p cap w) args sto r s1 mv h ρ w vs hS hv
end Go.Proofs.YtabdcfcnngnnoaaDoor.E
