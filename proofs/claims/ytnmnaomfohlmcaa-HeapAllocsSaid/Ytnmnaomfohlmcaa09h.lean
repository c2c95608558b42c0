/- What is reached, by walking: what a queue leads to. In plain Lean. -/
import Derived.Test.Ytnmnaomfohlmcaa09e
set_option linter.unusedVariables false
set_option linter.unusedSimpArgs false
namespace Go.Proofs.Ytnmnaomfohlmcaa.E
open Go
def Val (n : Nat) (x : Int) : Prop := 1 ≤ x ∧ x ≤ n
namespace U
def refsAt (hs : List Obj) (x : Int) : List Int := (ob hs (x - 1).toNat).refs
end U
/-- What is met so far, and what waits, lead to out'. -/
structure BfsTo (hs : List Obj) (out queue out' : List Int) : Prop where
  val : ∀ x ∈ out', Val hs.length x
  nodup : out'.Nodup
  old : ∀ x ∈ out, x ∈ out'
  que : ∀ x ∈ queue, Val hs.length x → x ∈ out'
  closed : ∀ x ∈ out', x ∉ out → ∀ r ∈ U.refsAt hs x, Val hs.length r → r ∈ out'
  least : ∀ S : Int → Prop, (∀ x ∈ out, S x) → (∀ x ∈ queue, Val hs.length x → S x) → (∀ x, Val hs.length x → S x → ∀ r ∈ U.refsAt hs x, Val hs.length r → S r) → ∀ x ∈ out', S x
theorem BfsTo.nil {hs : List Obj} {out : List Int} (h1 : ∀ x ∈ out, Val hs.length x) (h2 : out.Nodup) : BfsTo hs out [] out :=
  ⟨h1, h2, fun x h => h, fun x h => (by cases h), fun x h h' => absurd h h', fun S h _ _ => h⟩
theorem BfsTo.skip {hs : List Obj} {out queue out' : List Int} {o : Int} (h : BfsTo hs out queue out') (ho : ¬ Val hs.length o ∨ o ∈ out) : BfsTo hs out (o :: queue) out' :=
  ⟨h.val, h.nodup, h.old, fun x hx hv => by
    rcases List.mem_cons.1 hx with rfl | hx
    · rcases ho with ho | ho
      · exact absurd hv ho
      · exact h.old _ ho
    · exact h.que x hx hv, h.closed, fun S s1 s2 s3 => h.least S s1 (fun x hx hv => s2 x (List.mem_cons_of_mem _ hx) hv) s3⟩
theorem BfsTo.take {hs : List Obj} {out queue out' : List Int} {o : Int} (h : BfsTo hs (out ++ [o]) (queue ++ U.refsAt hs o) out') (hv : Val hs.length o) : BfsTo hs out (o :: queue) out' :=
  ⟨h.val, h.nodup, fun x hx => h.old x (by simp [hx]), fun x hx hv' => by
    rcases List.mem_cons.1 hx with rfl | hx
    · exact h.old _ (by simp)
    · exact h.que x (by simp [hx]) hv', fun x hx hn r hr hrv => by
    by_cases e : x = o
    · subst e; exact h.que r (by simp [hr]) hrv
    · exact h.closed x hx (by simp [hn, e]) r hr hrv, fun S s1 s2 s3 => h.least S (fun x hx => by
      rcases List.mem_append.1 hx with hx | hx
      · exact s1 x hx
      · rw [List.mem_singleton.1 hx]; exact s2 o (by simp) hv) (fun x hx hxv => by
      rcases List.mem_append.1 hx with hx | hx
      · exact s2 x (List.mem_cons_of_mem _ hx) hxv
      · exact s3 o hv (s2 o (by simp) hv) x hx hxv) s3⟩
/-- The same roots, in the same heap, reach the same. -/
theorem BfsTo.same {hs : List Obj} {queue a b : List Int} (ha : BfsTo hs [] queue a) (hb : BfsTo hs [] queue b) : ∀ x, x ∈ a ↔ x ∈ b := fun x =>
  ⟨fun h => ha.least (· ∈ b) (fun _ h => (by cases h)) hb.que (fun y hy hS r hr hrv => hb.closed y hS (by simp) r hr hrv) x h, fun h => hb.least (· ∈ a) (fun _ h => (by cases h)) ha.que (fun y hy hS r hr hrv => ha.closed y hS (by simp) r hr hrv) x h⟩
theorem met_lt {n : Nat} {out : List Int} {o : Int} (h1 : ∀ x ∈ out, Val n x) (h2 : out.Nodup) (hv : Val n o) (ho : o ∉ out) : out.length < n := by
  have hn : (o :: out).Nodup := List.nodup_cons.2 ⟨ho, h2⟩
  have := len_of_cover hn (b := (List.range n).map fun (i : Nat) => (i : Int) + 1) (fun x hx => by
    have hxv : Val n x := by
      rcases List.mem_cons.1 hx with rfl | hx
      · exact hv
      · exact h1 x hx
    obtain ⟨a, b⟩ := hxv
    exact List.mem_map.2 ⟨(x - 1).toNat, List.mem_range.2 (by omega), by omega⟩)
  simp at this
  omega
end Go.Proofs.Ytnmnaomfohlmcaa.E
