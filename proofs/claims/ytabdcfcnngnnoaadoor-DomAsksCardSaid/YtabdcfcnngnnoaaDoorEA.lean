/- Arrays of two and three, opened. -/
import Derived.Test.YtabdcfcnngnnoaaDoorE24
import Derived.OpenShut
set_option linter.unusedVariables false
set_option linter.unusedSimpArgs false
namespace Go.Proofs.YtabdcfcnngnnoaaDoor.E
open Go
section
variable {P : Program}
theorem EOpen.arr3 {α : Type} {enc : α → List AV} {wf : α → Prop} {t e : TypeId} (ht : P.underlying t = some (.array 3 e)) (h : EOpen P e enc wf) (hc : P.cellsOf e = 1) (hc3 : P.cellsOf t = 3) : EOpen P t (fun x : α × α × α => enc x.1 ++ (enc x.2.1 ++ enc x.2.2)) (fun x => wf x.1 ∧ wf x.2.1 ∧ wf x.2.2) where
  sz := fun a => by rw [List.length_append, List.length_append, h.sz, h.sz, h.sz, hc, hc3]
  fr := fun a x hx => by
    rcases List.mem_append.1 hx with hx | hx
    · exact h.fr _ x hx
    · rcases List.mem_append.1 hx with hx | hx
      · exact h.fr _ x hx
      · exact h.fr _ x hx
  op := fun {Hh en w base spare held fuel cs x} hx hz => by
    obtain ⟨xs, m, rfl, rfl, hl, hxl, hf⟩ := DataW.trod_array ht hx
    have each : ∀ i, i < 3 → ∃ a : α, wf a ∧ RVs ρ0 w (enc a) ((cs.drop i).take 1) := fun i hi => by
      have h1 := hf i hi
      rw [List.getElem?_eq_getElem (by omega), hc, Nat.mul_one] at h1
      exact h.op h1 (fun n hn => hz n (by
        rw [DataW.weights, ht]
        exact weightsAll_mem (List.mem_map_of_mem (List.getElem_mem (by omega))) hn))
    rw [hc3] at hl
    match cs, hl with
    | [u, v, z], _ =>
      obtain ⟨a0, w0, k0⟩ := each 0 (by omega)
      obtain ⟨a1, w1, k1⟩ := each 1 (by omega)
      obtain ⟨a2, w2, k2⟩ := each 2 (by omega)
      exact ⟨(a0, a1, a2), ⟨w0, w1, w2⟩, k0.append (k1.append k2)⟩
theorem EOpen.arr2 {α : Type} {enc : α → List AV} {wf : α → Prop} {t e : TypeId} (ht : P.underlying t = some (.array 2 e)) (h : EOpen P e enc wf) (hc : P.cellsOf e = 1) (hc3 : P.cellsOf t = 2) : EOpen P t (fun x : α × α => enc x.1 ++ enc x.2) (fun x => wf x.1 ∧ wf x.2) where
  sz := fun a => by rw [List.length_append, h.sz, h.sz, hc, hc3]
  fr := fun a x hx => by
    rcases List.mem_append.1 hx with hx | hx
    · exact h.fr _ x hx
    · exact h.fr _ x hx
  op := fun {Hh en w base spare held fuel cs x} hx hz => by
    obtain ⟨xs, m, rfl, rfl, hl, hxl, hf⟩ := DataW.trod_array ht hx
    have each : ∀ i, i < 2 → ∃ a : α, wf a ∧ RVs ρ0 w (enc a) ((cs.drop i).take 1) := fun i hi => by
      have h1 := hf i hi
      rw [List.getElem?_eq_getElem (by omega), hc, Nat.mul_one] at h1
      exact h.op h1 (fun n hn => hz n (by
        rw [DataW.weights, ht]
        exact weightsAll_mem (List.mem_map_of_mem (List.getElem_mem (by omega))) hn))
    rw [hc3] at hl
    match cs, hl with
    | [u, v], _ =>
      obtain ⟨a0, w0, k0⟩ := each 0 (by omega)
      obtain ⟨a1, w1, k1⟩ := each 1 (by omega)
      exact ⟨(a0, a1), ⟨w0, w1⟩, k0.append k1⟩
theorem okWide_array {w : World} {r : Reach} {base : Nat} {t : TypeId} {v : Value} {n : Nat} {e : TypeId} (ht : P.underlying t = some (.array n e)) (h : Value.okWide P w r base t v) : ∃ cs, v = .agg cs := by
  simp only [Value.okWide, ht] at h
  obtain ⟨cs, h1, _⟩ := h
  exact ⟨cs, h1⟩
end
def enc3 (x : Int × Int × Int) : List AV := [goI x.1, goI x.2.1, goI x.2.2]
def enc2 (x : Int × Int) : List AV := [goI x.1, goI x.2]
theorem EOpen.int3 {P : Program} {t e : TypeId} (ht : P.underlying t = some (.array 3 e)) (he : P.underlying e = some (.int .i64)) (hc : P.cellsOf e = 1) (hc3 : P.cellsOf t = 3) : EOpen P t enc3 (fun x => (Lit.int .i64 x.1).wf = true ∧ (Lit.int .i64 x.2.1).wf = true ∧ (Lit.int .i64 x.2.2).wf = true) := EOpen.arr3 ht (EOpen.int he hc) hc hc3
theorem EOpen.int2 {P : Program} {t e : TypeId} (ht : P.underlying t = some (.array 2 e)) (he : P.underlying e = some (.int .i64)) (hc : P.cellsOf e = 1) (hc3 : P.cellsOf t = 2) : EOpen P t enc2 (fun x => (Lit.int .i64 x.1).wf = true ∧ (Lit.int .i64 x.2).wf = true) := EOpen.arr2 ht (EOpen.int he hc) hc hc3
def encb2 (x : Int × Int) : List AV := [.v (.int .u8 x.1), .v (.int .u8 x.2)]
theorem EOpen.byte2 {P : Program} {t e : TypeId} (ht : P.underlying t = some (.array 2 e)) (he : P.underlying e = some (.int .u8)) (hc : P.cellsOf e = 1) (hc3 : P.cellsOf t = 2) : EOpen P t encb2 (fun x => (Lit.int .u8 x.1).wf = true ∧ (Lit.int .u8 x.2).wf = true) := EOpen.arr2 ht (EOpen.int he hc) hc hc3
theorem lit8 {n : Int} (h : (Lit.int .u8 n).wf = true) : 0 ≤ n ∧ n ≤ 255 := by
  simp [Lit.wf, IntKind.min, IntKind.max, IntKind.signed, IntKind.bits] at h
  exact ⟨by omega, by omega⟩
end Go.Proofs.YtabdcfcnngnnoaaDoor.E
