/- Functions, by what the evaluator asks; the theorems t.. were printed by show.txt, a program of this session. -/
import Derived.Test.Ythbkemkjkpaoaab17j
set_option linter.unusedVariables false
set_option linter.unusedSimpArgs false
set_option maxRecDepth 100000
namespace Go.Proofs.Ythbkemkjkpaoaab.E
open Go

theorem wf26 (l : List Mv) (hl : l.length ≤ 1000000) : Wf Try.prog H 26 [.sl (l.map encM)] [] = some (.os 0 0 (l.map encM).length, [.arr 4 (l.map encM)], []) :=
  Wf_prim (p := cloneP 4) (by rfl) (by
    unfold cloneP
    simp only
    rw [if_pos ⟨rowsOk_map l, by simp [LIM]; exact hl⟩])
def touched (l : List Mv) (x : Loc) : Bool := !(allFrom (fun j => !(touchP x (l.getD j default))) 0 l.length)
def refused (l : List Mv) (x : Loc) : Bool := !(U.right l 0) || (!(U.mayL x) || touched l x)
def moved (l : List Mv) : List Mv := l.filter (fun m => !sameP m)
def ordered (l : List Mv) (x : Loc) : List Mv := ord x (mu (moved l)) (moved l) []
theorem wf9_no (l : List Mv) (x : Loc) (hl : l.length ≤ 400) (hw : ∀ m ∈ l, m.ok) (h : refused l x = true) : Wf Try.prog H 9 [.sl (l.map encM), .agg (encL x)] [] = some (.tup [.sl [], goI 1], [], []) := by
  have h12 := wf12 l (by omega) hw
  have h23 := wf23 x.k x.n
  have h24 := wf24 l (by omega) x
  have t := t9 l x (U.right l 0) (touched l x) 0 [] [] (.tup [.sl [], goI 1], [], [])
  refine runT_ok (F := F9 (U.right l 0) (touched l x) 0 0 0 []) (L := L9 x []) (cut := false) ?_
  rw [t]
  clear t
  simp only [TB_iff]
  refine ⟨h12, fun _ => trivial, fun h1 => ⟨h23, fun _ => trivial, fun h2 => ⟨h24, fun _ => trivial, fun h3 => ?_⟩⟩⟩
  exfalso
  unfold refused U.mayL at h
  rw [h1, h2, h3] at h
  cases h
theorem wf9_ok (l : List Mv) (x : Loc) (hl : l.length ≤ 400) (hw : ∀ m ∈ l, m.ok) (hx : x.ok) (h : refused l x = false) : Wf Try.prog H 9 [.sl (l.map encM), .agg (encL x)] [] = some (.tup [.os 0 0 ((ordered l x).map encM).length, goI 0], [.arr 4 ((ordered l x).map encM)], []) := by
  have h12 := wf12 l (by omega) hw
  have h23 := wf23 x.k x.n
  have h24 := wf24 l (by omega) x
  have h26 := wf26 l (by omega)
  obtain ⟨ys, g1, g2⟩ := wf25 l (by omega)
  unfold refused at h
  simp only [Bool.or_eq_false_iff] at h
  have hne : ∀ m ∈ moved l, m.to ≠ x := fun m hm e => by
    have hm1 : m ∈ l := (List.mem_filter.1 hm).1
    obtain ⟨j, hj⟩ := List.getElem?_of_mem hm1
    have hjl := (List.getElem?_eq_some_iff.1 hj).1
    have h2 : allFrom (fun j => !(touchP x (l.getD j default))) 0 l.length = true := by
      have := h.2.2
      unfold touched at this
      simpa using this
    have h3 := allFrom_iff.1 h2 j (Nat.zero_le _) hjl
    rw [List.getD_eq_getElem?_getD, hj] at h3
    simp [touchP, e] at h3
  have hml : (moved l).length ≤ l.length := List.length_filter_le _ _
  have hmu : mu (moved l) ≤ 801 := by unfold mu; split <;> omega
  have h7 := loop9_7 x hx (mu (moved l)) (moved l) [] ys (Nat.le_refl _) (fun m hm => hw m (List.mem_filter.1 hm).1) hne (by simp; omega) g1
  have t := t9 l x (U.right l 0) (touched l x) (moved l).length ((moved l).map encM ++ ys) ((ordered l x).map encM) (.tup [.os 0 0 ((ordered l x).map encM).length, goI 0], [.arr 4 ((ordered l x).map encM)], [])
  refine runT_ok (F := F9 (U.right l 0) (touched l x) 0 0 (moved l).length ((moved l).map encM ++ ys)) (L := L9 x ((ordered l x).map encM)) (cut := false) ?_
  rw [t]
  clear t
  simp only [TB_iff]
  have e : (l.map encM).length = l.length := List.length_map _
  refine ⟨h12, fun h1 => absurd (h.1.symm.trans h1) (by simp), fun h1 => ⟨h23, fun h2 => absurd (h.2.1.symm.trans h2) (by simp), fun h2 => ⟨h24, fun h3 => absurd (h.2.2.symm.trans h3) (by simp), fun h3 => ⟨h26, ?_, ?_, trivial⟩⟩⟩⟩
  · rw [e]; exact g2
  · exact h7
end Go.Proofs.Ythbkemkjkpaoaab.E
