/- A law's arguments, read as data, in the evaluator's form; and its end. -/
import Derived.Test.YtabdcfcnngnnoaaDoorE23
import Derived.DataReads
import Derived.DataElems
import Derived.Below
import Derived.SizedLaws
set_option linter.unusedVariables false
set_option linter.unusedSimpArgs false
namespace Go.Proofs.YtabdcfcnngnnoaaDoor.E
open Go
/-- Nothing is one's own yet. -/
def ρ0 : Gh := ⟨fun _ => none, fun _ => False⟩
theorem not_owns0 (b : Nat) : ¬ owns ρ0 b := by
  rintro (⟨t, k, h, _⟩ | h)
  · cases h
  · exact h
/-- The tables stand. -/
def TabsIn (w : World) : Prop := ∀ p ∈ TABS, w.cell? p.1 = some p.2
theorem StoOk0 (w : World) (hw : TabsIn w) : StoOk ρ0 w [] where
  len := fun t k h => by cases h
  inj := fun t t' k k' h => by cases h
  blk := fun t k h => by cases h
  apart := fun t k h => by cases h
  old := fun b h => h.elim
  row := fun t r h => by simp at h
  tab := fun p hp => ⟨fun q => not_owns0 _ (.inl q), hw p hp⟩
/-- What reads as data of type t is what enc says; wf: what is known of it. -/
structure EOpen {α : Type} (P : Program) (t : TypeId) (enc : α → List AV) (wf : α → Prop) : Prop where
  sz : ∀ a, (enc a).length = P.cellsOf t
  fr : ∀ a, ∀ x ∈ enc a, frozen x = true
  op : ∀ {Hh : Type} {en : TypeId × Value → Hh} {w : World} {base : Nat} {spare : Nat → Bool} {held : Bool} {fuel : Nat} {cs : List Value} {x : DataW Hh × List MemPlace},
    DataW.trod en P w base spare held fuel t cs = some x → (∀ n ∈ x.1.weights P t, n ≤ reachBytes) → ∃ a : α, wf a ∧ RVs ρ0 w (enc a) cs
/-- The same of fields that lie side by side, from cell 'off' on. -/
structure EOpenF {α : Type} (P : Program) (fs : List Field) (off n : Nat) (enc : α → List AV) (wf : α → Prop) : Prop where
  sz : ∀ a, (enc a).length = n
  fr : ∀ a, ∀ x ∈ enc a, frozen x = true
  op : ∀ {Hh : Type} {en : TypeId × Value → Hh} {w : World} {base : Nat} {spare : Nat → Bool} {held : Bool} {fuel : Nat} {cs : List Value}, cs.length = off + n →
    (∀ (i : Nat) (f : Field), fs[i]? = some f → ∃ x, DataW.trod en P w base spare held fuel f.type ((cs.drop f.offset).take (P.cellsOf f.type)) = some x ∧ ∀ n ∈ x.1.weights P f.type, n ≤ reachBytes) → ∃ a : α, wf a ∧ RVs ρ0 w (enc a) (cs.drop off)
section
variable {P : Program}
theorem weightsAll_mem {Hh : Type} {P : Program} {e : TypeId} {d : DataW Hh} : ∀ {ds : List (DataW Hh)}, d ∈ ds → ∀ {n : Nat}, n ∈ d.weights P e → n ∈ DataW.weightsAll P e ds
  | a :: r, h, n, hn => by
    rw [DataW.weightsAll, List.mem_append]
    rcases List.mem_cons.1 h with rfl | h
    · exact Or.inl hn
    · exact Or.inr (weightsAll_mem h hn)
  | [], h, _, _ => by cases h
theorem EOpen.int {t : TypeId} {k : IntKind} (ht : P.underlying t = some (.int k)) (hc : P.cellsOf t = 1) : EOpen P t (fun n : Int => [.v (.int k n)]) (fun a => (Lit.int k a).wf = true) where
  sz := fun a => by rw [hc]; rfl
  fr := fun a x hx => by simp at hx; subst hx; rfl
  op := fun h _ => by
    obtain ⟨n, rfl, _, hw⟩ := DataW.trod_int ht h
    exact ⟨n, hw, RVs.cons' (.v _) RVs.nil'⟩
theorem EOpen.bool {t : TypeId} (ht : P.underlying t = some .bool) (hc : P.cellsOf t = 1) : EOpen P t (fun n : Bool => [.v (.bool n)]) (fun _ => True) where
  sz := fun a => by rw [hc]; rfl
  fr := fun a x hx => by simp at hx; subst hx; rfl
  op := fun h _ => by
    obtain ⟨n, rfl, _⟩ := DataW.trod_bool ht h
    exact ⟨n, trivial, RVs.cons' (.v _) RVs.nil'⟩
theorem EOpen.string {t : TypeId} (ht : P.underlying t = some .string) (hc : P.cellsOf t = 1) : EOpen P t (fun n : ByteArray => [.v (.string n)]) (fun s => s.size ≤ maxLen) where
  sz := fun a => by rw [hc]; rfl
  fr := fun a x hx => by simp at hx; subst hx; rfl
  op := fun h _ => by
    obtain ⟨n, rfl, _, hs⟩ := DataW.trod_string ht h
    exact ⟨n, hs, RVs.cons' (.v _) RVs.nil'⟩
theorem EOpenF.one {α : Type} {enc : α → List AV} {wf : α → Prop} {f : Field} {off n : Nat} (h : EOpen P f.type enc wf) (ho : f.offset = off) (hn : P.cellsOf f.type = n) : EOpenF P [f] off n enc wf where
  sz := fun a => (h.sz a).trans hn
  fr := h.fr
  op := fun hl hf => by
    obtain ⟨x, hx, hz⟩ := hf 0 f rfl
    obtain ⟨a, hw, hk⟩ := h.op hx hz
    refine ⟨a, hw, ?_⟩
    rw [ho, hn, List.take_of_length_le (by rw [List.length_drop]; omega)] at hk
    exact hk
theorem EOpenF.cons {α β : Type} {ea : α → List AV} {eb : β → List AV} {wa : α → Prop} {wb : β → Prop} {f : Field} {fs : List Field} {off n m : Nat} (h : EOpen P f.type ea wa) (ho : f.offset = off) (hn : P.cellsOf f.type = n) (hs : EOpenF P fs (off + n) m eb wb) :
    EOpenF P (f :: fs) off (n + m) (fun x : α × β => ea x.1 ++ eb x.2) (fun x => wa x.1 ∧ wb x.2) where
  sz := fun a => by rw [List.length_append, h.sz, hs.sz, hn]
  fr := fun a x hx => by
    rcases List.mem_append.1 hx with hx | hx
    · exact h.fr _ x hx
    · exact hs.fr _ x hx
  op := fun {Hh en w base spare held fuel cs} hl hf => by
    obtain ⟨x, hx, hz⟩ := hf 0 f rfl
    obtain ⟨p, hw, hk⟩ := h.op hx hz
    obtain ⟨q, hwq, hkq⟩ := hs.op (cs := cs) (by omega) (fun i g hg => hf (i + 1) g (by simpa using hg))
    refine ⟨(p, q), ⟨hw, hwq⟩, ?_⟩
    rw [ho, hn] at hk
    have := hk.append hkq
    rwa [← List.drop_drop, List.take_append_drop] at this
theorem EOpen.struct {α β : Type} {enc : α → List AV} {wf : α → Prop} {t : TypeId} {fs : Array Field} {n : Nat} (ht : P.underlying t = some (.struct fs)) (h : EOpenF P fs.toList 0 n enc wf) (hc : P.cellsOf t = n) (g : α → β) (f : β → α) (enc' : β → List AV) (hfg : ∀ a, f (g a) = a) (he : ∀ b, enc' b = enc (f b)) :
    EOpen P t enc' (fun b => wf (f b)) where
  sz := fun a => by rw [he, h.sz, hc]
  fr := fun a => by rw [he]; exact h.fr _
  op := fun {Hh en w base spare held fuel cs x} hx hz => by
    obtain ⟨xs, m, rfl, rfl, hl, hxl, hf⟩ := DataW.trod_struct ht hx
    obtain ⟨a, hw, hk⟩ := h.op (fuel := m) (cs := cs) (by rw [hl, hc, Nat.zero_add]) (fun i g hg => by
      have hg' : fs[i]? = some g := by simpa using hg
      have hi : i < fs.size := (Array.getElem?_eq_some_iff.1 hg').1
      refine ⟨_, (hf i g hg').trans (List.getElem?_eq_getElem (by omega)), fun n hn => hz n ?_⟩
      rw [DataW.weights, ht]
      exact DataW.weights_mem_each (j := i) (t := g.type) (d := xs[i].1) (by rw [List.getElem?_map, hg]; rfl) (by rw [List.getElem?_map, List.getElem?_eq_getElem (by omega)]; rfl) n hn)
    exact ⟨g a, by rw [hfg]; exact hw, by rw [he, hfg]; exact hk⟩
theorem EOpen.slice {α : Type} {enc : α → List AV} {wf : α → Prop} {t e : TypeId} (ht : P.underlying t = some (.slice e)) (h : EOpen P e enc wf) (hc : P.cellsOf t = 1) (hb : decide (0 < P.bytesOf e) = true) : EOpen P t (fun l : List α => [.sl (l.map enc)]) (fun l => l.length ≤ reachBytes ∧ ∀ a ∈ l, wf a) where
  sz := fun a => by rw [hc]; rfl
  fr := fun a x hx => by simp at hx; subst hx; rfl
  op := fun {Hh en w base spare held fuel cs x} hx hz => by
    rcases DataW.trod_slice ht hx with ⟨rfl, _⟩ | ⟨a, len, cap, elems, rest, n, rfl, rfl, rfl, hba, hl, hm, hlen, hel, _, _⟩
    · exact ⟨[], ⟨Nat.zero_le _, fun a ha => by cases ha⟩, RVs.cons' (.sl [] none 0 0 (fun _ _ => .bool false) (Nat.le_refl _) (fun h => by simp at h) (fun i row hr => by simp at hr) (fun i row j x hr => by simp at hr) (fun i row j x hr => by simp at hr)) RVs.nil'⟩
    · have each : ∀ i : Fin len, ∃ y : α, ∃ cs : List Value, w.cells? base (a.add (i.val * P.cellsOf e)) (P.cellsOf e) = some cs ∧ wf y ∧ RVs ρ0 w (enc y) cs := fun i => by
        have h1 := hel i.val i.isLt
        rw [List.getElem?_eq_getElem (by omega)] at h1
        obtain ⟨cs, hcs, hy⟩ := Option.bind_eq_some_iff.1 h1
        obtain ⟨y, hw, hk⟩ := h.op hy (fun n hn => hz n (by
          rw [DataW.weights, ht]
          exact List.mem_cons_of_mem _ (List.mem_append_left _ (weightsAll_mem (List.mem_map_of_mem (List.getElem_mem (by omega))) hn))))
        exact ⟨y, cs, hcs, hw, hk⟩
      refine ⟨List.ofFn (fun i => Classical.choose (each i)), ⟨by
        rw [List.length_ofFn]
        have h0 := hz _ (by rw [DataW.weights, ht]; exact List.mem_cons_self)
        rw [List.length_map, List.length_map, hlen] at h0
        have hb' : 0 < P.bytesOf e := of_decide_eq_true hb
        exact Nat.le_trans (Nat.le_trans (Nat.le_add_right len rest.length) (Nat.le_mul_of_pos_right _ hb')) h0, fun y hy => ?_⟩, ?_⟩
      · obtain ⟨j, hj, hje⟩ := List.getElem_of_mem hy
        rw [List.getElem_ofFn] at hje
        rw [← hje]
        obtain ⟨_, _, hw, _⟩ := Classical.choose_spec (each ⟨j, by simpa using hj⟩)
        exact hw
      · refine RVs.cons' ?_ RVs.nil'
        have hlen' : ((List.ofFn (fun i => Classical.choose (each i))).map enc).length = len := by rw [List.length_map, List.length_ofFn]
        have at_ : ∀ (i : Nat) (row : List AV), ((List.ofFn (fun i => Classical.choose (each i))).map enc)[i]? = some row → ∃ cs, w.cells? base (a.add (i * P.cellsOf e)) (P.cellsOf e) = some cs ∧ RVs ρ0 w row cs ∧ ∃ y, row = enc y := fun i row hr => by
          obtain ⟨hi, hr⟩ := List.getElem?_eq_some_iff.1 hr
          rw [List.getElem_map, List.getElem_ofFn] at hr
          rw [hlen'] at hi
          obtain ⟨cs, hcs, _, hk⟩ := Classical.choose_spec (each ⟨i, hi⟩)
          exact ⟨cs, hcs, by rw [← hr]; exact hk, _, hr.symm⟩
        have key := RV.sl (ρ := ρ0) (w := w) ((List.ofFn (fun i => Classical.choose (each i))).map enc) (some a) cap (P.cellsOf e) (fun i j => (w.cell? (a.add (i * P.cellsOf e + j))).getD (.bool false)) (by rw [hlen']; omega) (fun _ => rfl) (fun i row hr => by
          obtain ⟨cs, _, _, y, rfl⟩ := at_ i row hr
          exact h.sz y) (fun i row j x hr hx => by
          obtain ⟨cs, hcs, hk, y, rfl⟩ := at_ i row hr
          obtain ⟨_, hcl, hcell⟩ := World.cells?_some hcs
          have hj : j < cs.length := by rw [← hk.1]; exact (List.getElem?_eq_some_iff.1 hx).1
          have hc2 := hcell j (by omega)
          rw [Addr.add_add, List.getElem?_eq_getElem hj] at hc2
          exact ⟨h.fr y x (List.mem_of_getElem? hx), a, rfl, not_owns0 _, by rw [hc2]; rfl⟩) (fun i row j x hr hx => by
          obtain ⟨cs, hcs, hk, y, rfl⟩ := at_ i row hr
          obtain ⟨_, hcl, hcell⟩ := World.cells?_some hcs
          have hj : j < cs.length := by rw [← hk.1]; exact (List.getElem?_eq_some_iff.1 hx).1
          have hc2 := hcell j (by omega)
          rw [Addr.add_add, List.getElem?_eq_getElem hj] at hc2
          rw [hc2]
          exact hk.2 j x _ hx (List.getElem?_eq_getElem hj))
        rw [hlen'] at key
        exact key
end
/-- Behind the law all is as it was. -/
theorem Ext.below {w w' : World} {ρ' : Gh} {mv : List Nat} (h : Ext ρ0 w ρ' w' mv) : RowKit.Below w.heap.size w w' :=
  ⟨h.os, h.tape, h.output, h.size, fun k hk => h.keep k hk (fun ⟨t, k, h, _⟩ => by cases h)⟩
/-- A law that comes to 'true' answers so. -/
theorem law_true {P : Program} {H : FuncId → FH} (hP : POk P H) {f : FuncId} {args : List AV} {s1 : List Row} {mv : List Nat} (h : Wf P H f args [] = some (goB true, s1, mv)) (w : World) (hw : TabsIn w) (vs : Array Value) (hv : RVs ρ0 w args vs.toList) :
    Calls P f vs w fun e w' => e = .returned (.bool true) ∧ RowKit.Below w.heap.size w w' := by
  refine (Wf_calls hP h ρ0 w vs (StoOk0 w hw) hv).mono ?_
  rintro e w' ⟨v, ρ', rfl, g1, g2, g3⟩
  cases g1
  exact ⟨rfl, g3.below⟩
end Go.Proofs.YtabdcfcnngnnoaaDoor.E
