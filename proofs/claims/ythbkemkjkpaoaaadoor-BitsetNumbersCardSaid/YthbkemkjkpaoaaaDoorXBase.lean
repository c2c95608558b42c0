/- Words of this session's own, beside the print's: small lemmas that its texts and ours lean on. -/
import Derived.Test.YthbkemkjkpaoaaaDoorWWords
import Derived.Test.YthbkemkjkpaoaaaDoorWMore
import Derived.Laws.CopyOwn
set_option linter.unusedVariables false
namespace Go.Proofs.YthbkemkjkpaoaaaDoorW.PrintWords
open Go.RowKit
/-- A row that is read, at a length that is spelled otherwise. -/
theorem X_lenC {α : Type} {d : Kd α} {W : World} {A : Option Addr} {m n : Nat} {ys : List α} (h : n = m) (hc : Kd.C d W A n ys) : ReadsRow (d.K W) d.sz W A m ys := by
  subst h
  exact hc
theorem X_encs_length {α : Type} (enc : α → Value) (xs : List α) : (encs enc xs).length = xs.length := by simp [encs]
section
variable {P : Program} {ops : Array Oper} {rest : List Oper} {o : Oper} {a : Act} {Q : Exit → Act → World → Prop}
/-- 'copy(dst, src)', dst a row of one's own of elements of one cell. -/
theorem X_R_copy {α : Type} {enc : α → Value} {h1 : ∀ x, (enc x).oneCell' = true} (z0 : α) {w0 W : World} (base : Nat) (hgd : o.guard = none) (s x : Operand) (t e : TypeId) (z : Value) (bytes : Nat)
    (ho : o.op = .call { callee := .builtin .copy, args := #[s, x], argTypes := #[t, t] }) (ht : P.underlying t = some (.slice e))
    (hinfo : (P.info? e).map (fun i => (i.zero, i.size, i.bytes)) = some (some z, 1, bytes))
    (v : Value) (xs ys : List α) (A : Option Addr) (m c : Nat) (ok : Nat → Prop) (hs : a.eval s = v) (hx : a.eval x = .slice A m c)
    (HO : (Kd.scalar enc h1).R e W base ok v xs) (HR : Kd.C (Kd.scalar enc h1) W A m ys) (HB : Below base w0 W)
    (h : ∀ v1 w1 nc, v1 = v → (Kd.scalar enc h1).R e w1 base ok v1 (ys.take xs.length ++ xs.drop ys.length) → Below base w0 w1 → W.grownBy w1 v.ownBlock → (v1.ownBlock = v.ownBlock ∨ ∃ b, v1.ownBlock = some b ∧ W.heap.size ≤ b) → wpList P ops Q rest (a.put o.dst (.int .i64 nc)) w1) :
    wpList P ops Q (o :: rest) a W := by
  have hsz : (P.info? e).map (·.size) = some 1 := by
    obtain ⟨i0, hi, hzz⟩ := Option.map_eq_some_iff.1 hinfo
    simp only [Prod.mk.injEq] at hzz
    rw [hi]
    simp [hzz.2.1]
  have hm : ys.length = m := HR.1
  have hown := Kd.own_of_R HO
  have hfresh : W.grownBy W v.ownBlock := ⟨rfl, rfl, rfl, Nat.le_refl _, fun _ _ _ => rfl⟩
  by_cases h0 : Nat.min m xs.length = 0
  · obtain ⟨A1, c1, rfl⟩ := Kd.R_slice HO
    refine wpList_copy_nothing hgd s x t t ho e ht hsz A1 A xs.length c1 m c hs hx h0 (h _ W _ rfl ?_ HB hfresh (.inl rfl))
    have e1 : ys.take xs.length ++ xs.drop ys.length = xs := by
      rcases Nat.eq_zero_or_pos xs.length with hz | hz
      · rw [List.eq_nil_of_length_eq_zero hz]; simp
      · have : ys = [] := List.eq_nil_of_length_eq_zero (by rw [hm]; have h0' : min m xs.length = 0 := h0; omega)
        rw [this]; simp
    rw [e1]; exact HO
  · have h0' : ¬ min m xs.length = 0 := h0
    obtain ⟨hlen, hr⟩ := hown
    rcases hr with ⟨rfl, hn⟩ | ⟨g, cap, cur, rfl, hb, hh, hnc, hcm, hcs, htk⟩
    · omega
    · obtain ⟨ad, hA, hcell⟩ := HR.2.2 (by omega)
      subst hA
      have hcl : ((encs enc ys).take xs.length).length = Nat.min m xs.length := by
        rw [List.length_take, X_encs_length, hm]
        exact Nat.min_comm _ _
      have hcmin : Nat.min m xs.length ≤ xs.length := Nat.min_le_right _ _
      refine wpList_copy_own hgd s x t t ho e ht hsz g 0 xs.length cap ad m c hs hx cur e hh ((encs enc ys).take xs.length) hcl ?_ (by rw [hcl, hcs]; omega) ?_ (h _ _ _ rfl ?_ ?_ ?_ (.inl rfl))
      · intro j u hu
        rw [List.getElem?_take] at hu
        split at hu
        · unfold encs at hu
          rw [List.getElem?_map] at hu
          obtain ⟨y, hy, rfl⟩ := Option.map_eq_some_iff.1 hu
          obtain ⟨cs, _, hk, hcc⟩ := hcell j y hy
          have hk' : cs = [enc y] := hk
          subst hk'
          have := hcc 0 _ rfl
          rwa [show (Kd.scalar enc h1).sz = 1 from rfl, Nat.mul_one, Nat.add_zero] at this
        · cases hu
      · intro u hu
        obtain ⟨y, _, rfl⟩ := List.mem_map.1 (List.mem_of_mem_take hu)
        exact h1 y
      · refine Kd.R_of_own ?_ HO.1
        have hz : (ys.take xs.length ++ xs.drop ys.length).length = xs.length := by simp; omega
        rw [hz]
        refine ⟨by rw [X_encs_length, hz]; omega, .inr ⟨g, cap, _, rfl, hb, setRow_heap W g _ _ _ _ hh, hnc, hcm, ?_, ?_⟩⟩
        · simp only [List.size_toArray, List.length_append, List.length_take, List.length_drop, Array.length_toList, X_encs_length]
          omega
        · have hxs : encs enc xs = cur.toList.take (xs.length * 1) := htk.symm
          simp only [List.take_zero, List.nil_append, Nat.zero_add, hcl]
          unfold encs at *
          rw [List.map_append, List.map_take, List.map_drop, hxs, Nat.mul_one]
          rw [List.take_append, hcl, List.drop_take, List.take_take]
          congr 1
          · congr 1
            exact Nat.min_self _
          · rw [hm]
            have : Nat.min m xs.length = min m xs.length := rfl
            rcases Nat.le_total m xs.length with hle | hle
            · rw [this, Nat.min_eq_left hle]
            · rw [this, Nat.min_eq_right hle, Nat.sub_self, List.take_zero, show xs.length - m = 0 from by omega, List.take_zero]
      · exact below_setRow HB hb _
      · exact ⟨rfl, rfl, rfl, by simp [World.setRow], fun k hk hne => setRow_other W g k _ (fun e => hne (by rw [e]; rfl))⟩
end
end Go.Proofs.YthbkemkjkpaoaaaDoorW.PrintWords
