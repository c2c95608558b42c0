/- slices.Sort of integers as this program has it: the library's own bodies. -/
import Derived.Test.YtjgnnjoejlijjaaS1
import Derived.Shelf.Slices.In.SortNone
import Derived.Test.YtjgnnjoejlijjaaProg
import Derived.KernelRfl
set_option linter.unusedVariables false
set_option maxRecDepth 100000
namespace Go.Proofs.Ytjgnnjoejlijjaa.E
open Go Go.Shelf Go.Sort
def laysSort_ren : Ren := ⟨(fun | 189 => 70 | 125 => 93 | 257 => 92 | 128 => 112 | 129 => 113 | 294 => 103 | 295 => 104 | 296 => 105 | 297 => 106 | 298 => 107 | 299 => 108 | 216 => 109 | 300 => 110 | 301 => 111 | 328 => 115 | 329 => 116 | 330 => 117 | 331 => 118 | 332 => 119 | 215 => 120 | 343 => 121 | n => n), (fun | 28 => 27 | 3 => 3 | 46 => 113 | 0 => 0 | 51 => 150 | 53 => 112 | 4 => 4 | 183 => 143 | 182 => 142 | 131 => 114 | 5 => 5 | 9 => 9 | 218 => 153 | 222 => 157 | 228 => 159 | 229 => 160 | n => n), fun n => n⟩
theorem laysSort : Lays.n189 Try.prog laysSort_ren := {
  mixed := (by kernel_rfl)
  f125 := Eq.trans Try.func93 (congrArg some (by kernel_rfl))
  f128 := Eq.trans Try.func112 (congrArg some (by kernel_rfl))
  f129 := Eq.trans Try.func113 (congrArg some (by kernel_rfl))
  f189 := Eq.trans Try.func70 (congrArg some (by kernel_rfl))
  f215 := Eq.trans Try.func120 (congrArg some (by kernel_rfl))
  f216 := Eq.trans Try.func109 (congrArg some (by kernel_rfl))
  f257 := Eq.trans Try.func92 (congrArg some (by kernel_rfl))
  f294 := Eq.trans Try.func103 (congrArg some (by kernel_rfl))
  f295 := Eq.trans Try.func104 (congrArg some (by kernel_rfl))
  f296 := Eq.trans Try.func105 (congrArg some (by kernel_rfl))
  f297 := Eq.trans Try.func106 (congrArg some (by kernel_rfl))
  f298 := Eq.trans Try.func107 (congrArg some (by kernel_rfl))
  f299 := Eq.trans Try.func108 (congrArg some (by kernel_rfl))
  f300 := Eq.trans Try.func110 (congrArg some (by kernel_rfl))
  f301 := Eq.trans Try.func111 (congrArg some (by kernel_rfl))
  f328 := Eq.trans Try.func115 (congrArg some (by kernel_rfl))
  f329 := Eq.trans Try.func116 (congrArg some (by kernel_rfl))
  f330 := Eq.trans Try.func117 (congrArg some (by kernel_rfl))
  f331 := Eq.trans Try.func118 (congrArg some (by kernel_rfl))
  f332 := Eq.trans Try.func119 (congrArg some (by kernel_rfl))
  f343 := Eq.trans Try.func121 (congrArg some (by kernel_rfl))
  t0 := Try.underlying0
  a0 := Try.isAgg0
  z0 := Try.sizeOf0
  v0 := Try.zeroValue0
  t3 := Try.underlying3
  a3 := Try.isAgg3
  z3 := Try.sizeOf3
  v3 := Try.zeroValue3
  t4 := Try.underlying4
  a4 := Try.isAgg4
  z4 := Try.sizeOf4
  v4 := Try.zeroValue4
  t5 := Try.underlying5
  a5 := Try.isAgg5
  z5 := Try.sizeOf5
  v5 := Try.zeroValue5
  t9 := Try.underlying9
  a9 := Try.isAgg9
  z9 := Try.sizeOf9
  v9 := Try.zeroValue9
  t28 := Try.underlying27
  a28 := Try.isAgg27
  z28 := Try.sizeOf27
  v28 := Try.zeroValue27
  t46 := Try.underlying113
  a46 := Try.isAgg113
  z46 := Try.sizeOf113
  v46 := Try.zeroValue113
  t51 := Try.underlying150
  a51 := Try.isAgg150
  z51 := Try.sizeOf150
  v51 := Try.zeroValue150
  t53 := Try.underlying112
  a53 := Try.isAgg112
  z53 := Try.sizeOf112
  v53 := Try.zeroValue112
  t131 := Try.underlying114
  a131 := Try.isAgg114
  z131 := Try.sizeOf114
  v131 := Try.zeroValue114
  t182 := Try.underlying142
  a182 := Try.isAgg142
  z182 := Try.sizeOf142
  v182 := Try.zeroValue142
  t183 := Try.underlying143
  a183 := Try.isAgg143
  z183 := Try.sizeOf143
  v183 := Try.zeroValue143
  t218 := Try.underlying153
  a218 := Try.isAgg153
  z218 := Try.sizeOf153
  v218 := Try.zeroValue153
  t222 := Try.underlying157
  a222 := Try.isAgg157
  z222 := Try.sizeOf157
  v222 := Try.zeroValue157
  t228 := Try.underlying159
  a228 := Try.isAgg159
  z228 := Try.sizeOf159
  v228 := Try.zeroValue159
  t229 := Try.underlying160
  a229 := Try.isAgg160
  z229 := Try.sizeOf160
  v229 := Try.zeroValue160 }
theorem sort_calls (args : List AV) (sto : List Row) (r : AV) (s1 : List Row) (mv : List Nat) (h : sortP args sto = some (r, s1, mv)) (ρ : Gh) (w : World) (vs : Array Value) (hS : StoOk ρ w sto) (hv : RVs ρ w args vs.toList) :
    Calls Try.prog 70 vs w fun e w' => ∃ v ρ', e = .returned v ∧ RV ρ' w' r v ∧ StoOk ρ' w' s1 ∧ Ext ρ w ρ' w' (mv ++ List.range' sto.length (s1.length - sto.length)) :=
  sortP_calls (fun blk off cap zs w hH hb hz => Any.slices_Sort_int laysSort blk off cap zs w hH hb hz) (fun p cap w => Any.slices_Sort_int_none laysSort p cap w) args sto r s1 mv h ρ w vs hS hv
end Go.Proofs.Ytjgnnjoejlijjaa.E
