/- What a row lists of the program's tables, as the evaluator asks. -/
import Derived.Test.YtdnekkkpngnmkaaDoorE24
import Derived.Test.YtdnekkkpngnmkaaDoorProg
import Derived.Lib.LaidTab
import Derived.KernelRfl
set_option linter.unusedVariables false
set_option linter.unusedSimpArgs false
namespace Go.Proofs.YtdnekkkpngnmkaaDoor.E
open Go
/-- An array of texts that reads as the table holds the table's texts. -/
theorem cells_of_strs {H : Type} {enc : TypeId × Value → H} {P : Program} {w : World} {base : Nat} {sp : Nat → Bool} {held : Bool} {fuel : Nat} {t e : TypeId} {n : Nat} {cs : List Value} {ss : List (List UInt8)} {p : List MemPlace}
    (ht : P.underlying t = some (.array n e)) (he : P.underlying e = some .string) (hce : P.cellsOf e = 1) (hct : P.cellsOf t = n)
    (h : DataW.trod enc P w base sp held fuel t cs = some (.agg (ss.map fun s => .lit (.string s)), p)) : cs = ss.map fun s => Value.string ⟨s.toArray⟩ := by
  cases fuel with
  | zero => simp [DataW.trod] at h
  | succ fuel =>
    simp only [DataW.trod, ht, hce, hct, Nat.mul_one] at h
    split at h
    · rename_i hl
      obtain ⟨xs, hm, hx⟩ := Option.map_eq_some_iff.1 h
      have hxs : xs.map (·.1) = ss.map fun s => (DataW.lit (.string s) : DataW H) := by
        have := congrArg Prod.fst hx
        simpa using this
      have hxl : xs.length = n := by simpa using Lib.mapM_length hm
      have hzl : ss.length = n := by
        have := congrArg List.length hxs
        simp at this
        omega
      apply List.ext_getElem?
      intro i
      by_cases hi : i < n
      · obtain ⟨b, hb, hf⟩ := Lib.mapM_at hm i i (by simp [hi])
        obtain ⟨s, hc, rfl, _⟩ := DataW.trod_string he hf
        have h1 : cs[i]? = some (.string s) := by
          have := congrArg (·[0]?) hc
          simpa [List.getElem?_take, List.getElem?_drop] using this
        have h2 : (xs.map (·.1))[i]? = some (DataW.lit (.string s.data.toList) : DataW H) := by simp [hb]
        rw [hxs] at h2
        simp only [List.getElem?_map, Option.map_eq_some_iff, DataW.lit.injEq, Lit.string.injEq] at h2
        obtain ⟨s', hs', he'⟩ := h2
        rw [h1, List.getElem?_map, hs', he']
        rfl
      · rw [List.getElem?_eq_none (by omega), List.getElem?_eq_none (by simp; omega)]
    · cases h
theorem gParts : Tryd.prog.globalNamed "portolan/code.parts" = some 1 := by kernel_rfl
theorem gPartsType : (Tryd.prog.globals[1]?).map (·.type) = some 100 := by kernel_rfl
theorem gTz : Tryd.prog.globalNamed "math/bits.deBruijn64tab" = some 0 := by kernel_rfl
theorem gTzType : (Tryd.prog.globals[0]?).map (·.type) = some 96 := by kernel_rfl
theorem tz_list : ∀ j, j < 64 → ((Lib.deBruijn64tab.map fun z : Nat => (z : Int)).getD j 0) = ((Lib.deBruijn64tab.getD j 0 : Nat) : Int) := by decide
/-- What the row's list gives. -/
theorem tabsIn_of {W : World} (h : laidMet Tryd.prog (("math/bits.deBruijn64tab", Lib.tabData .u8 (Lib.deBruijn64tab.map fun z : Nat => (z : Int))) :: ("portolan/code.parts", .agg (PARTS.map fun s => .lit (.string s))) :: []) W) : TabsIn W := by
  have htz := Lib.tabIs_of_head gTz gTzType Tryd.underlying96 Tryd.underlying5 (by kernel_rfl) (by kernel_rfl) h
  obtain ⟨ps0, ⟨_, _, _, _, _, _, _, _, _, _, ⟨g', t', cs, fuel, p, q, hg', ht', hvar, hd, _, _⟩, _⟩, _⟩ := h
  obtain rfl := Option.some.inj (gParts.symm.trans hg')
  obtain rfl := Option.some.inj (gPartsType.symm.trans ht')
  have hcs := cells_of_strs Tryd.underlying100 Tryd.underlying9 (by kernel_rfl) (by kernel_rfl) hd
  intro p hp
  unfold TABS at hp
  rcases List.mem_append.1 hp with hp | hp
  · obtain ⟨⟨s, i⟩, hm, rfl⟩ := List.mem_map.1 hp
    rw [List.mem_zipIdx_iff_getElem?] at hm
    have hc := World.var?_cell gParts hvar i
    rw [← Array.getElem?_toList, hcs, List.getElem?_map, hm] at hc
    exact hc
  · obtain ⟨⟨s, i⟩, hm, rfl⟩ := List.mem_map.1 hp
    rw [List.mem_zipIdx_iff_getElem?] at hm
    have hl : Lib.deBruijn64tab.length = 64 := by decide
    have hi : i < 64 := by
      have := (List.getElem?_eq_some_iff.1 hm).1
      omega
    have hc := htz.cell gTz i (by rw [List.length_map]; omega)
    rw [tz_list i hi, List.getD_eq_getElem?_getD, hm] at hc
    exact hc
end Go.Proofs.YtdnekkkpngnmkaaDoor.E
