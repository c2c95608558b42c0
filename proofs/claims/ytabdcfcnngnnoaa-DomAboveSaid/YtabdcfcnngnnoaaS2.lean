/- slices.Sort of integers as this program has it: the library's own bodies. -/
import Derived.Test.YtabdcfcnngnnoaaS1
import Derived.Shelf.Slices.In.SortNone
import Derived.Test.YtabdcfcnngnnoaaProg
import Derived.KernelRfl
set_option linter.unusedVariables false
set_option maxRecDepth 100000
namespace Go.Proofs.Ytabdcfcnngnnoaa.E
open Go Go.Shelf Go.Sort
def laysSort_ren : Ren := ⟨(fun | 189 => 58 | 125 => 73 | 257 => 72 | 128 => 87 | 129 => 88 | 294 => 78 | 295 => 79 | 296 => 80 | 297 => 81 | 298 => 82 | 299 => 83 | 216 => 84 | 300 => 85 | 301 => 86 | 328 => 89 | 329 => 90 | 330 => 91 | 331 => 92 | 332 => 93 | 215 => 94 | 343 => 95 | n => n), (fun | 28 => 27 | 3 => 3 | 46 => 93 | 0 => 0 | 51 => 105 | 53 => 86 | 4 => 4 | 183 => 99 | 182 => 98 | 131 => 89 | 5 => 5 | 9 => 9 | 218 => 107 | 222 => 111 | 228 => 113 | 229 => 114 | n => n), fun n => n⟩
theorem laysSort : Lays.n189 Try.prog laysSort_ren := {
  mixed := (by kernel_rfl)
  f125 := Eq.trans Try.func73 (congrArg some (by kernel_rfl))
  f128 := Eq.trans Try.func87 (congrArg some (by kernel_rfl))
  f129 := Eq.trans Try.func88 (congrArg some (by kernel_rfl))
  f189 := Eq.trans Try.func58 (congrArg some (by kernel_rfl))
  f215 := Eq.trans Try.func94 (congrArg some (by kernel_rfl))
  f216 := Eq.trans Try.func84 (congrArg some (by kernel_rfl))
  f257 := Eq.trans Try.func72 (congrArg some (by kernel_rfl))
  f294 := Eq.trans Try.func78 (congrArg some (by kernel_rfl))
  f295 := Eq.trans Try.func79 (congrArg some (by kernel_rfl))
  f296 := Eq.trans Try.func80 (congrArg some (by kernel_rfl))
  f297 := Eq.trans Try.func81 (congrArg some (by kernel_rfl))
  f298 := Eq.trans Try.func82 (congrArg some (by kernel_rfl))
  f299 := Eq.trans Try.func83 (congrArg some (by kernel_rfl))
  f300 := Eq.trans Try.func85 (congrArg some (by kernel_rfl))
  f301 := Eq.trans Try.func86 (congrArg some (by kernel_rfl))
  f328 := Eq.trans Try.func89 (congrArg some (by kernel_rfl))
  f329 := Eq.trans Try.func90 (congrArg some (by kernel_rfl))
  f330 := Eq.trans Try.func91 (congrArg some (by kernel_rfl))
  f331 := Eq.trans Try.func92 (congrArg some (by kernel_rfl))
  f332 := Eq.trans Try.func93 (congrArg some (by kernel_rfl))
  f343 := Eq.trans Try.func95 (congrArg some (by kernel_rfl))
  t0 := Try.underlying0
  a0 := Try.isAgg0
  z0 := Try.sizeOf0
  v0 := Try.zeroValue0
  t3 := Try.underlying3
  a3 := Try.isAgg3
  z3 := Try.sizeOf3
  v3 := Try.zeroValue3
  t4 := Try.underlying4
  a4 := Try.isAgg4
  z4 := Try.sizeOf4
  v4 := Try.zeroValue4
  t5 := Try.underlying5
  a5 := Try.isAgg5
  z5 := Try.sizeOf5
  v5 := Try.zeroValue5
  t9 := Try.underlying9
  a9 := Try.isAgg9
  z9 := Try.sizeOf9
  v9 := Try.zeroValue9
  t28 := Try.underlying27
  a28 := Try.isAgg27
  z28 := Try.sizeOf27
  v28 := Try.zeroValue27
  t46 := Try.underlying93
  a46 := Try.isAgg93
  z46 := Try.sizeOf93
  v46 := Try.zeroValue93
  t51 := Try.underlying105
  a51 := Try.isAgg105
  z51 := Try.sizeOf105
  v51 := Try.zeroValue105
  t53 := Try.underlying86
  a53 := Try.isAgg86
  z53 := Try.sizeOf86
  v53 := Try.zeroValue86
  t131 := Try.underlying89
  a131 := Try.isAgg89
  z131 := Try.sizeOf89
  v131 := Try.zeroValue89
  t182 := Try.underlying98
  a182 := Try.isAgg98
  z182 := Try.sizeOf98
  v182 := Try.zeroValue98
  t183 := Try.underlying99
  a183 := Try.isAgg99
  z183 := Try.sizeOf99
  v183 := Try.zeroValue99
  t218 := Try.underlying107
  a218 := Try.isAgg107
  z218 := Try.sizeOf107
  v218 := Try.zeroValue107
  t222 := Try.underlying111
  a222 := Try.isAgg111
  z222 := Try.sizeOf111
  v222 := Try.zeroValue111
  t228 := Try.underlying113
  a228 := Try.isAgg113
  z228 := Try.sizeOf113
  v228 := Try.zeroValue113
  t229 := Try.underlying114
  a229 := Try.isAgg114
  z229 := Try.sizeOf114
  v229 := Try.zeroValue114 }
theorem sort_calls (args : List AV) (sto : List Row) (r : AV) (s1 : List Row) (mv : List Nat) (h : sortP args sto = some (r, s1, mv)) (ρ : Gh) (w : World) (vs : Array Value) (hS : StoOk ρ w sto) (hv : RVs ρ w args vs.toList) :
    Calls Try.prog 58 vs w fun e w' => ∃ v ρ', e = .returned v ∧ RV ρ' w' r v ∧ StoOk ρ' w' s1 ∧ Ext ρ w ρ' w' (mv ++ List.range' sto.length (s1.length - sto.length)) :=
  sortP_calls (fun blk off cap zs w hH hb hz => Any.slices_Sort_int laysSort blk off cap zs w hH hb hz) (fun p cap w => Any.slices_Sort_int_none laysSort p cap w) args sto r s1 mv h ρ w vs hS hv
end Go.Proofs.Ytabdcfcnngnnoaa.E
