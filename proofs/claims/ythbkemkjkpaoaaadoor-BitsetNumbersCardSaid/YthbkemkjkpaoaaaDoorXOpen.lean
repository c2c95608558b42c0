/- Words of this session's own: data that is read, laid open as the print's kinds tell it, of whatever depth. -/
import Derived.Test.YthbkemkjkpaoaaaDoorWWords
import Derived.Test.YthbkemkjkpaoaaaDoorWMore
import Derived.Test.YthbkemkjkpaoaaaDoorWFoot
import Derived.ChangeArms
import Derived.DataReads
import Derived.DataElems
set_option linter.unusedVariables false
namespace Go.Proofs.YthbkemkjkpaoaaaDoorW.PrintWords
open Go.RowKit
/-- What reads as data of type t is told by the kind d; wf: what is known of it. -/
structure X_Open {α : Type} (P : Program) (t : TypeId) (d : Kd α) (wf : α → Prop) : Prop where
  sz : P.cellsOf t = d.sz
  op : ∀ {H : Type} {enc : TypeId × Value → H} {w : World} {base : Nat} {spare : Nat → Bool} {held : Bool} {fuel : Nat} {cs : List Value} {x : DataW H × List MemPlace},
    DataW.trod enc P w base spare held fuel t cs = some x → ∃ a : α, d.K w a cs ∧ wf a
/-- The same of fields that lie side by side, from cell 'off' on. -/
structure X_OpenF {α : Type} (P : Program) (fs : List Field) (off : Nat) (d : Kd α) (wf : α → Prop) : Prop where
  op : ∀ {H : Type} {enc : TypeId × Value → H} {w : World} {base : Nat} {spare : Nat → Bool} {held : Bool} {fuel : Nat} {cs : List Value}, cs.length = off + d.sz →
    (∀ (i : Nat) (f : Field), fs[i]? = some f → ∃ x, DataW.trod enc P w base spare held fuel f.type ((cs.drop f.offset).take (P.cellsOf f.type)) = some x) → ∃ a : α, d.K w a (cs.drop off) ∧ wf a
section
variable {P : Program}
theorem X_Open.int {t : TypeId} {k : IntKind} (ht : P.underlying t = some (.int k)) (hc : P.cellsOf t = 1) : X_Open P t (Kd.int k) (fun a => (Lit.int k a).wf = true) where
  sz := hc
  op := fun h => by
    obtain ⟨n, rfl, _, hw⟩ := DataW.trod_int ht h
    exact ⟨n, rfl, hw⟩
theorem X_Open.bool {t : TypeId} (ht : P.underlying t = some .bool) (hc : P.cellsOf t = 1) : X_Open P t Kd.bool (fun _ => True) where
  sz := hc
  op := fun h => by
    obtain ⟨n, rfl, _⟩ := DataW.trod_bool ht h
    exact ⟨n, rfl, trivial⟩
theorem X_Open.string {t : TypeId} (ht : P.underlying t = some .string) (hc : P.cellsOf t = 1) : X_Open P t Kd.string (fun s => s.size ≤ maxLen) where
  sz := hc
  op := fun h => by
    obtain ⟨n, rfl, _, hs⟩ := DataW.trod_string ht h
    exact ⟨n, rfl, hs⟩
theorem X_OpenF.one {α : Type} {d : Kd α} {wf : α → Prop} {f : Field} {off : Nat} (h : X_Open P f.type d wf) (ho : f.offset = off) : X_OpenF P [f] off d wf where
  op := fun hl hf => by
    obtain ⟨x, hx⟩ := hf 0 f rfl
    obtain ⟨a, hk, hw⟩ := h.op hx
    refine ⟨a, ?_, hw⟩
    rw [ho, h.sz, List.take_of_length_le (by rw [List.length_drop]; omega)] at hk
    exact hk
theorem X_OpenF.cons {α β : Type} {a : Kd α} {b : Kd β} {wa : α → Prop} {wb : β → Prop} {f : Field} {fs : List Field} {off : Nat} (h : X_Open P f.type a wa) (ho : f.offset = off) (hs : X_OpenF P fs (off + a.sz) b wb) :
    X_OpenF P (f :: fs) off (Kd.pair a b) (fun x => wa x.1 ∧ wb x.2) where
  op := fun {H enc w base spare held fuel cs} hl hf => by
    have hl' : cs.length = off + (a.sz + b.sz) := hl
    obtain ⟨x, hx⟩ := hf 0 f rfl
    obtain ⟨p, hk, hw⟩ := h.op hx
    obtain ⟨q, hkq, hwq⟩ := hs.op (cs := cs) (by omega) (fun i g hg => hf (i + 1) g (by simpa using hg))
    refine ⟨(p, q), ⟨_, _, ?_, hk, hkq⟩, hw, hwq⟩
    rw [ho, h.sz, ← List.drop_drop, List.take_append_drop]
theorem X_Open.struct {α β : Type} {d : Kd α} {wf : α → Prop} {t : TypeId} {fs : Array Field} (ht : P.underlying t = some (.struct fs)) (h : X_OpenF P fs.toList 0 d wf) (hc : P.cellsOf t = d.sz) (f : β → α) (g : α → β) (hfg : ∀ a, f (g a) = a) :
    X_Open P t (Kd.iso d f) (fun b => wf (f b)) where
  sz := hc
  op := fun {H enc w base spare held fuel cs x} hx => by
    obtain ⟨xs, n, rfl, _, hl, hxl, hf⟩ := DataW.trod_struct ht hx
    obtain ⟨a, hk, hw⟩ := h.op (fuel := n) (cs := cs) (by rw [hl, hc, Nat.zero_add]) (fun i g hg => by
      have hg' : fs[i]? = some g := by simpa using hg
      have hi : i < fs.size := (Array.getElem?_eq_some_iff.1 hg').1
      exact ⟨_, (hf i g hg').trans (List.getElem?_eq_getElem (by omega))⟩)
    refine ⟨g a, ?_, by rw [hfg]; exact hw⟩
    show d.K w (f (g a)) cs
    rw [hfg]
    exact hk
theorem X_Open.slice {α : Type} {d : Kd α} {wf : α → Prop} {t e : TypeId} (ht : P.underlying t = some (.slice e)) (h : X_Open P e d wf) (hc : P.cellsOf t = 1) : X_Open P t (Kd.slice e d) (fun l => l.length ≤ maxLen ∧ ∀ a ∈ l, wf a) where
  sz := hc
  op := fun {H enc w base spare held fuel cs x} hx => by
    rcases DataW.trod_slice ht hx with ⟨rfl, _⟩ | ⟨a, len, cap, elems, rest, n, rfl, rfl, _, hb, hl, hm, hlen, hel, _, _⟩
    · exact ⟨[], ⟨none, 0, rfl, Nat.le_refl _, Kd.C_nil d w⟩, Nat.zero_le _, fun a ha => by cases ha⟩
    · have each : ∀ i : Fin len, ∃ y : α, ∃ cs : List Value, w.cells? base (a.add (i.val * d.sz)) d.sz = some cs ∧ d.K w y cs ∧ wf y := fun i => by
        have h1 := hel i.val i.isLt
        rw [List.getElem?_eq_getElem (by omega)] at h1
        obtain ⟨cs, hcs, hy⟩ := Option.bind_eq_some_iff.1 h1
        obtain ⟨y, hk, hw⟩ := h.op hy
        rw [h.sz] at hcs
        exact ⟨y, cs, hcs, hk, hw⟩
      refine ⟨List.ofFn (fun i => Classical.choose (each i)), ⟨some a, cap, by rw [List.length_ofFn], by rw [List.length_ofFn]; exact hl, ?_⟩, by rw [List.length_ofFn]; omega, fun y hy => ?_⟩
      · refine ⟨rfl, by rw [List.length_ofFn]; unfold maxLen at hm; omega, fun _ => ⟨a, rfl, fun j p hp => ?_⟩⟩
        obtain ⟨hj, hpe⟩ := List.getElem?_eq_some_iff.1 hp
        rw [List.length_ofFn] at hj
        rw [List.getElem_ofFn] at hpe
        obtain ⟨cs, hcs, hk, _⟩ := Classical.choose_spec (each ⟨j, hj⟩)
        rw [hpe] at hk
        obtain ⟨_, hcl, hcell⟩ := World.cells?_some hcs
        refine ⟨cs, hcl, hk, fun i u hu => ?_⟩
        have hi : i < d.sz := by rw [← hcl]; exact (List.getElem?_eq_some_iff.1 hu).1
        have := hcell i hi
        rw [Addr.add_add] at this
        rw [this]
        exact hu
      · obtain ⟨j, hj, hje⟩ := List.getElem_of_mem hy
        rw [List.getElem_ofFn] at hje
        rw [← hje]
        obtain ⟨_, _, _, hw⟩ := Classical.choose_spec (each ⟨j, by simpa using hj⟩)
        exact hw
end
end Go.Proofs.YthbkemkjkpaoaaaDoorW.PrintWords
