/- slices.Sort of integers as this program has it: the library's own bodies. -/
import Derived.Test.YtnmnaomfohlmcaaS1
import Derived.Shelf.Slices.In.SortNone
import Derived.Test.YtnmnaomfohlmcaaProg
import Derived.KernelRfl
set_option linter.unusedVariables false
set_option maxRecDepth 100000
namespace Go.Proofs.Ytnmnaomfohlmcaa.E
open Go Go.Shelf Go.Sort
def laysSort_ren : Ren := ⟨(fun | 189 => 34 | 125 => 42 | 257 => 41 | 128 => 53 | 129 => 54 | 294 => 44 | 295 => 45 | 296 => 46 | 297 => 47 | 298 => 48 | 299 => 49 | 216 => 50 | 300 => 51 | 301 => 52 | 328 => 55 | 329 => 56 | 330 => 57 | 331 => 58 | 332 => 59 | 215 => 60 | 343 => 61 | n => n), (fun | 28 => 26 | 3 => 3 | 46 => 66 | 0 => 0 | 51 => 77 | 53 => 79 | 4 => 4 | 183 => 69 | 182 => 68 | 131 => 74 | 5 => 5 | 9 => 9 | 218 => 80 | 222 => 84 | 228 => 86 | 229 => 87 | n => n), fun n => n⟩
theorem laysSort : Lays.n189 Try.prog laysSort_ren := {
  mixed := (by kernel_rfl)
  f125 := Eq.trans Try.func42 (congrArg some (by kernel_rfl))
  f128 := Eq.trans Try.func53 (congrArg some (by kernel_rfl))
  f129 := Eq.trans Try.func54 (congrArg some (by kernel_rfl))
  f189 := Eq.trans Try.func34 (congrArg some (by kernel_rfl))
  f215 := Eq.trans Try.func60 (congrArg some (by kernel_rfl))
  f216 := Eq.trans Try.func50 (congrArg some (by kernel_rfl))
  f257 := Eq.trans Try.func41 (congrArg some (by kernel_rfl))
  f294 := Eq.trans Try.func44 (congrArg some (by kernel_rfl))
  f295 := Eq.trans Try.func45 (congrArg some (by kernel_rfl))
  f296 := Eq.trans Try.func46 (congrArg some (by kernel_rfl))
  f297 := Eq.trans Try.func47 (congrArg some (by kernel_rfl))
  f298 := Eq.trans Try.func48 (congrArg some (by kernel_rfl))
  f299 := Eq.trans Try.func49 (congrArg some (by kernel_rfl))
  f300 := Eq.trans Try.func51 (congrArg some (by kernel_rfl))
  f301 := Eq.trans Try.func52 (congrArg some (by kernel_rfl))
  f328 := Eq.trans Try.func55 (congrArg some (by kernel_rfl))
  f329 := Eq.trans Try.func56 (congrArg some (by kernel_rfl))
  f330 := Eq.trans Try.func57 (congrArg some (by kernel_rfl))
  f331 := Eq.trans Try.func58 (congrArg some (by kernel_rfl))
  f332 := Eq.trans Try.func59 (congrArg some (by kernel_rfl))
  f343 := Eq.trans Try.func61 (congrArg some (by kernel_rfl))
  t0 := Try.underlying0
  a0 := Try.isAgg0
  z0 := Try.sizeOf0
  v0 := Try.zeroValue0
  t3 := Try.underlying3
  a3 := Try.isAgg3
  z3 := Try.sizeOf3
  v3 := Try.zeroValue3
  t4 := Try.underlying4
  a4 := Try.isAgg4
  z4 := Try.sizeOf4
  v4 := Try.zeroValue4
  t5 := Try.underlying5
  a5 := Try.isAgg5
  z5 := Try.sizeOf5
  v5 := Try.zeroValue5
  t9 := Try.underlying9
  a9 := Try.isAgg9
  z9 := Try.sizeOf9
  v9 := Try.zeroValue9
  t28 := Try.underlying26
  a28 := Try.isAgg26
  z28 := Try.sizeOf26
  v28 := Try.zeroValue26
  t46 := Try.underlying66
  a46 := Try.isAgg66
  z46 := Try.sizeOf66
  v46 := Try.zeroValue66
  t51 := Try.underlying77
  a51 := Try.isAgg77
  z51 := Try.sizeOf77
  v51 := Try.zeroValue77
  t53 := Try.underlying79
  a53 := Try.isAgg79
  z53 := Try.sizeOf79
  v53 := Try.zeroValue79
  t131 := Try.underlying74
  a131 := Try.isAgg74
  z131 := Try.sizeOf74
  v131 := Try.zeroValue74
  t182 := Try.underlying68
  a182 := Try.isAgg68
  z182 := Try.sizeOf68
  v182 := Try.zeroValue68
  t183 := Try.underlying69
  a183 := Try.isAgg69
  z183 := Try.sizeOf69
  v183 := Try.zeroValue69
  t218 := Try.underlying80
  a218 := Try.isAgg80
  z218 := Try.sizeOf80
  v218 := Try.zeroValue80
  t222 := Try.underlying84
  a222 := Try.isAgg84
  z222 := Try.sizeOf84
  v222 := Try.zeroValue84
  t228 := Try.underlying86
  a228 := Try.isAgg86
  z228 := Try.sizeOf86
  v228 := Try.zeroValue86
  t229 := Try.underlying87
  a229 := Try.isAgg87
  z229 := Try.sizeOf87
  v229 := Try.zeroValue87 }
theorem sort_calls (args : List AV) (sto : List Row) (r : AV) (s1 : List Row) (mv : List Nat) (h : sortP args sto = some (r, s1, mv)) (ρ : Gh) (w : World) (vs : Array Value) (hS : StoOk ρ w sto) (hv : RVs ρ w args vs.toList) :
    Calls Try.prog 34 vs w fun e w' => ∃ v ρ', e = .returned v ∧ RV ρ' w' r v ∧ StoOk ρ' w' s1 ∧ Ext ρ w ρ' w' (mv ++ List.range' sto.length (s1.length - sto.length)) :=
  sortP_calls (fun blk off cap zs w hH hb hz => Any.slices_Sort_int laysSort blk off cap zs w hH hb hz) (fun p cap w => Any.slices_Sort_int_none laysSort p cap w) args sto r s1 mv h ρ w vs hS hv
end Go.Proofs.Ytnmnaomfohlmcaa.E
