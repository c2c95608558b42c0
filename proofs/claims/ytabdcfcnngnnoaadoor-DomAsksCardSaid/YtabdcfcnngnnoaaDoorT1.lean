/- What a row lists of the program's tables, as the evaluator asks. -/
import Derived.Test.YtabdcfcnngnnoaaDoorE24
import Derived.Test.YtabdcfcnngnnoaaDoorProg
import Derived.Lib.LaidTab
import Derived.KernelRfl
set_option linter.unusedVariables false
set_option linter.unusedSimpArgs false
namespace Go.Proofs.YtabdcfcnngnnoaaDoor.E
open Go
theorem gTz : Tryd.prog.globalNamed "math/bits.deBruijn64tab" = some 0 := by kernel_rfl
theorem gTzType : (Tryd.prog.globals[0]?).map (·.type) = some 96 := by kernel_rfl
theorem tz_list : ∀ j, j < 64 → ((Lib.deBruijn64tab.map fun z : Nat => (z : Int)).getD j 0) = ((Lib.deBruijn64tab.getD j 0 : Nat) : Int) := by decide
/-- What the row's list gives. -/
theorem tabsIn_of {W : World} (h : laidMet Tryd.prog (("math/bits.deBruijn64tab", Lib.tabData .u8 (Lib.deBruijn64tab.map fun z : Nat => (z : Int))) :: []) W) : TabsIn W := by
  have htz := Lib.tabIs_of_head gTz gTzType Tryd.underlying96 Tryd.underlying5 (by kernel_rfl) (by kernel_rfl) h
  intro p hp
  unfold TABS at hp
  rw [List.nil_append] at hp
  obtain ⟨⟨s, i⟩, hm, rfl⟩ := List.mem_map.1 hp
  rw [List.mem_zipIdx_iff_getElem?] at hm
  have hl : Lib.deBruijn64tab.length = 64 := by decide
  have hi : i < 64 := by
    have := (List.getElem?_eq_some_iff.1 hm).1
    omega
  have hc := htz.cell gTz i (by rw [List.length_map]; omega)
  rw [tz_list i hi, List.getD_eq_getElem?_getD, hm] at hc
  exact hc
end Go.Proofs.YtabdcfcnngnnoaaDoor.E
