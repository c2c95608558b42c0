-- Written by xprint.py, a program of this session, for this claim: contracts of the functions that the law reaches.
import Derived.Test.YthbkemkjkpaoaaaRows
import Derived.Test.YthbkemkjkpaoaaaXStBitsetLaws
import Derived.Test.YthbkemkjkpaoaaaPureBitsetLaws
import Derived.WalkKit
import Derived.ProofKit
import Derived.OpenShut
import Derived.ShutString
import Derived.ChangeOld
import Derived.Below
import Derived.SizedLaws
namespace Go.Proofs.Ythbkemkjkpaoaaa.bitsetLaws
open Go.ChangeShapes Go.WideShapes Go.ChangeAt Go.RowKit Go.Proofs.YthbkemkjkpaoaaaW.PrintWords Go.Proofs.Ythbkemkjkpaoaaa.X Go.Proofs.Ythbkemkjkpaoaaa.X.Wf
open Go.ChangeMaps (open_string shut_string)
set_option linter.unusedVariables false
set_option linter.unusedSimpArgs false
theorem own : ownKnob Try.prog.godebug = none := by kernel_rfl
theorem laidOut : laidOutB Try.prog = true := by kernel_rfl
set_option maxRecDepth 100000 in
theorem lifted (os : Os) (started : os.Started) (H : Type) (enc : TypeId × Value → H) :
    ReturnsInHanded {} Try.checked os 5 .any (Rows.bitsetLawsSpec.pre6 enc Try.prog Try.f5 Rows.bitsetLawsRow.domain false) (Rows.bitsetLawsSpec.post enc Try.prog Try.f5 false true false false) := by
  refine returnsInHanded_of_change_sized (C := Try.checked) own started (by kernel_rfl) Try.func5
    (ChangeSpec.witness6 (enc := enc) (C := Try.checked) false ⟨#[], #[.slice none 0 0, .slice none 0 0, .slice none 0 0], []⟩ 16 (by kernel_rfl) (by kernel_rfl) (by kernel_rfl) (by kernel_rfl)) ?_
  intro W base args ds gs before hval0 hW hcnd hsz0 _
  have hval : ∀ (j : Nat) t v, Try.f5.params[j]? = some t → args[j]? = some v → Value.okWide Try.prog W .any base t v := hval0
  have hW' := hW
  obtain ⟨p, q, hA0, hV, rfl, hfz, hnd⟩ := hW
  have hA : DataW.TrodAll enc Try.prog W 0 (fun _ => true) true Try.f5.params.toList args.toList ds p := hA0
  rw [Try.params5] at hA hval
  obtain ⟨v0, vs0, d0, ds0, p0, q0, hargs, rfl, rfl, h0, r0⟩ := trodAll_cons hA
  obtain ⟨v1, vs1, d1, ds1, p1, q1, rfl, rfl, rfl, h1, r1⟩ := trodAll_cons r0
  obtain ⟨v2, vs2, d2, ds2, p2, q2, rfl, rfl, rfl, h2, r2⟩ := trodAll_cons r1
  obtain ⟨rfl, rfl, rfl⟩ := trodAll_nil r2
  obtain rfl : args = #[v0, v1, v2] := by cases args; simp_all
  obtain ⟨rfl, rfl⟩ := trodVars_none hV
  obtain ⟨a0, len0, cap0, rfl⟩ := okWide_slice Try.underlying22 (hval 0 22 v0 rfl rfl)
  have k0 := h0
  have lt0 : ∀ x ∈ p0, x.block < W.heap.size := by obtain ⟨m, hm⟩ := k0; exact DataW.trod_lt m _ _ _ hm
  obtain ⟨l0, rfl, hl0, hC0, wf0⟩ : ∃ l, len0 = List.length l ∧ l.length ≤ cap0 ∧ Kd.C (Kd.int .u64) W a0 l.length l ∧ (l.length ≤ maxLen ∧ ∀ y ∈ l, (Lit.int .u64 y).wf = true) := by
    obtain ⟨fuel, hf⟩ := h0
    obtain ⟨l, ⟨A, c, hcs, hl, hC⟩, hw⟩ := (X_Open.slice Try.underlying22 (X_Open.int Try.underlying35 (by kernel_rfl)) (by kernel_rfl)).op hf
    simp [Value.cells] at hcs
    obtain ⟨rfl, rfl, rfl⟩ := hcs
    exact ⟨l, rfl, hl, hC, hw⟩
  obtain ⟨a1, len1, cap1, rfl⟩ := okWide_slice Try.underlying22 (hval 1 22 v1 rfl rfl)
  have k1 := h1
  have lt1 : ∀ x ∈ p1, x.block < W.heap.size := by obtain ⟨m, hm⟩ := k1; exact DataW.trod_lt m _ _ _ hm
  obtain ⟨l1, rfl, hl1, hC1, wf1⟩ : ∃ l, len1 = List.length l ∧ l.length ≤ cap1 ∧ Kd.C (Kd.int .u64) W a1 l.length l ∧ (l.length ≤ maxLen ∧ ∀ y ∈ l, (Lit.int .u64 y).wf = true) := by
    obtain ⟨fuel, hf⟩ := h1
    obtain ⟨l, ⟨A, c, hcs, hl, hC⟩, hw⟩ := (X_Open.slice Try.underlying22 (X_Open.int Try.underlying35 (by kernel_rfl)) (by kernel_rfl)).op hf
    simp [Value.cells] at hcs
    obtain ⟨rfl, rfl, rfl⟩ := hcs
    exact ⟨l, rfl, hl, hC, hw⟩
  obtain ⟨a2, len2, cap2, rfl⟩ := okWide_slice Try.underlying22 (hval 2 22 v2 rfl rfl)
  have k2 := h2
  have lt2 : ∀ x ∈ p2, x.block < W.heap.size := by obtain ⟨m, hm⟩ := k2; exact DataW.trod_lt m _ _ _ hm
  obtain ⟨l2, rfl, hl2, hC2, wf2⟩ : ∃ l, len2 = List.length l ∧ l.length ≤ cap2 ∧ Kd.C (Kd.int .u64) W a2 l.length l ∧ (l.length ≤ maxLen ∧ ∀ y ∈ l, (Lit.int .u64 y).wf = true) := by
    obtain ⟨fuel, hf⟩ := h2
    obtain ⟨l, ⟨A, c, hcs, hl, hC⟩, hw⟩ := (X_Open.slice Try.underlying22 (X_Open.int Try.underlying35 (by kernel_rfl)) (by kernel_rfl)).op hf
    simp [Value.cells] at hcs
    obtain ⟨rfl, rfl, rfl⟩ := hcs
    exact ⟨l, rfl, hl, hC, hw⟩
  clear hA0 hval0 hsz0
  obtain ⟨k, h⟩ := Pure.BitsetLaws l0 l1 l2 wf0 wf1 wf2
  refine (portolanlaw02_BitsetLaws.calls k (fun k_ => k_ < W.heap.size) a0 cap0 l0 (fun k_ => k_ < W.heap.size) a1 cap1 l1 (fun k_ => k_ < W.heap.size) a2 cap2 l2 true W (Kd.V_mk hl0 (Kd.C_F (Kd.heap_int .u64) hC0)) (Kd.V_mk hl1 (Kd.C_F (Kd.heap_int .u64) hC1)) (Kd.V_mk hl2 (Kd.C_F (Kd.heap_int .u64) hC2)) h).mono fun e W' ⟨he, bel0⟩ => ?_
  have bel : Below W.heap.size W W' := bel0
  subst he
  exact ⟨_, rfl, _, _, _, [], _, [], hW', trodAll_mk1 (shut_bool Try.underlying4 _), (trodAll_cons_mk (Below.trod laidOut (by kernel_rfl) (of_decide_eq_true (by kernel_rfl)) k0 bel lt0) (trodAll_cons_mk (Below.trod laidOut (by kernel_rfl) (of_decide_eq_true (by kernel_rfl)) k1 bel lt1) (trodAll_cons_mk (Below.trod laidOut (by kernel_rfl) (of_decide_eq_true (by kernel_rfl)) k2 bel lt2) trodAll_mk0))), rfl, bel.frame _, fun h => by cases h⟩
theorem over : Rows.bitsetLawsRow.holds Try.pinned (OpenSpec.ofChange Rows.bitsetLawsSpec) :=
  OpenClaim.holds_of_wide 5 Try.f5 rfl rfl rfl rfl rfl rfl rfl ⟨rfl, rfl, rfl, rfl, rfl⟩ rfl rfl rfl rfl rfl (by kernel_rfl) Try.func5 (by kernel_rfl)
    (of_decide_eq_true (by kernel_rfl)) (by unfold Func.isWrapper; first | (rw [if_pos (by decide +kernel)]; kernel_rfl) | (rw [if_neg (by decide +kernel)]; exact ⟨rfl, rfl⟩))
    (fun os started H enc _ => lifted os started H enc)
theorem proved : Rows.BitsetLawsSaid := over
#print axioms proved
end Go.Proofs.Ythbkemkjkpaoaaa.bitsetLaws
namespace Go.Proofs.Ythbkemkjkpaoaaa
/-- The row, under a short name, for the claim. -/
theorem bitsetLaws_holds : Rows.BitsetLawsSaid := bitsetLaws.proved
end Go.Proofs.Ythbkemkjkpaoaaa
