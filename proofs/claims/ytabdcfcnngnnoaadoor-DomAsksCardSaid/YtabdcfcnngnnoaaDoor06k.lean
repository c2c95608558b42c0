/- Functions, by what the evaluator asks; the theorems t.. were printed by show.txt, a program of this session. -/
import Derived.Test.YtabdcfcnngnnoaaDoor05d
set_option linter.unusedVariables false
set_option linter.unusedSectionVars false
set_option linter.unusedSimpArgs false
set_option maxRecDepth 100000
namespace Go.Proofs.YtabdcfcnngnnoaaDoor.E
open Go

theorem tcl (xs : List (List AV)) (r : AV × List Row × List Nat) : (runT Tryd.prog Hb (fun f args sto => CT.of (F0 f args sto)) L0 false 73 [AV.sl xs] [] fun q => q = r) = (0 < List.length xs ∧
 rowsOk 1 xs = true ∧
 (0 = 0 ∧ 0 + List.length xs ≤ 1000000) ∧ (AV.os 0 0 (0 + List.length xs), [Row.arr 1 ([] ++ xs)], []) = r) := by kernel_rfl
theorem tcln (c : Nat) (r : AV × List Row × List Nat) : (runT Tryd.prog Hb (fun f args sto => CT.of (F0 f args sto)) L0 false 73 [AV.v (Value.slice none 0 c)] [] fun q => q = r) = ((AV.nil, [], []) = r) := by kernel_rfl
theorem tcls (a : Addr) (c : Nat) (r : AV × List Row × List Nat) : (runT Tryd.prog Hb (fun f args sto => CT.of (F0 f args sto)) L0 false 73 [AV.v (Value.slice (some a) 0 c)] [] fun q =>
 q = r) = (true = true ∧ (0 = 0 ∧ 0 ≤ 1000000) ∧ (AV.os 0 0 0, [Row.arr 1 []], []) = r) := by kernel_rfl
theorem clone75 (hn : NamesOk Tryd.prog) (hm : MapsOk Tryd.prog) (hx : Tryd.prog.follows .mixedOrders = true) (args : List AV) (sto : List Row) (r : AV) (s1 : List Row) (mv : List Nat) (h : cloneP 1 args sto = some (r, s1, mv)) (ρ : Gh) (w : World) (vs : Array Value) (hS : StoOk ρ w sto) (hv : RVs ρ w args vs.toList) :
    Calls Tryd.prog 73 vs w fun e w' => ∃ v ρ', e = .returned v ∧ RV ρ' w' r v ∧ StoOk ρ' w' s1 ∧ Ext ρ w ρ' w' (mv ++ List.range' sto.length (s1.length - sto.length)) := by
  have hP : POk Tryd.prog Hb := ⟨hn, hm, hx, fun f p hp => by
    unfold Hb at hp
    split at hp <;> cases hp⟩
  unfold cloneP at h
  split at h
  · rename_i xs
    split at h
    · rename_i hc
      cases h
      cases xs with
      | cons x xs =>
        have h49 : Wf Tryd.prog Hb 73 [.sl (x :: xs)] [] = some (.os 0 0 (x :: xs).length, [.arr 1 (x :: xs)], []) := runK (tcl (x :: xs) _) ⟨by simp, hc.1, ⟨rfl, by simpa [LIM] using hc.2⟩, by simp⟩
        exact Wf_calls hP h49 ρ w vs hS hv
      | nil =>
        obtain ⟨y, rs, hvs, h1, h2⟩ := hv.head
        have hrs : rs = [] := List.eq_nil_of_length_eq_zero (by rw [← h2.1]; rfl)
        subst hrs
        generalize hnil : ([] : List (List AV)) = l at h1
        cases h1 with
        | sl _ a c sz U hc ha hrow hcell hsub =>
        subst hnil
        have hv2 : RVs ρ w [.v (.slice a 0 c)] vs.toList := by rw [hvs]; exact RVs.cons' (.v _) RVs.nil'
        cases a with
        | some a =>
          have h49 : Wf Tryd.prog Hb 73 [.v (.slice (some a) 0 c)] [] = some (.os 0 0 0, [.arr 1 []], []) := runK (tcls a c _) ⟨rfl, ⟨rfl, by omega⟩, rfl⟩
          exact Wf_calls hP h49 ρ w vs hS hv2
        | none =>
          have h49 : Wf Tryd.prog Hb 73 [.v (.slice none 0 c)] [] = some (.nil, [], []) := runK (tcln c _) rfl
          refine (Wf_calls hP h49 ρ w vs hS hv2).mono ?_
          rintro e w' ⟨v, ρ', rfl, g1, g2, g3⟩
          cases g1 with
          | nil a' =>
            have hno : ρ' 0 = none := by
              cases h0 : ρ' 0 with
              | none => rfl
              | some k => have := g2.len 0 k h0; simp at this
            have hno' : ∀ t, ρ' t = none := fun t => by
              cases h0 : ρ' t with
              | none => rfl
              | some k => have := g2.len t k h0; simp at this
            refine ⟨_, ρ', rfl, .osn 0 a' hno, ⟨fun t k ht => (by rw [hno' t] at ht; cases ht), fun t t' k k' ht _ _ => (by rw [hno' t] at ht; cases ht), fun t k ht => (by rw [hno' t] at ht; cases ht), fun t k ht => (by rw [hno' t] at ht; cases ht), g2.old, fun t row ht => ?_, g2.tab⟩, g3.mono (fun t ht => by simp at ht)⟩
            cases t with
            | zero => simp at ht; subst ht; rw [hno]; rfl
            | succ t => simp at ht
    · cases h
  · cases h
end Go.Proofs.YtabdcfcnngnnoaaDoor.E
