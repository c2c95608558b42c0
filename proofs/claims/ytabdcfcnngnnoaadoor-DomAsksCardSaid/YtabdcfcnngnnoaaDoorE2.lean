/- What the evaluator's values, and its memory, stand for. -/
import Derived.Test.YtabdcfcnngnnoaaDoorE1
import Derived.Below
import Derived.Laws.CopyRow
import Derived.Laws.MakeOwn
import Derived.Laws.CopyOwn
import Derived.Room.AppendUpon
set_option linter.unusedVariables false
set_option linter.unusedSimpArgs false
namespace Go.Proofs.YtabdcfcnngnnoaaDoor.E
open Go

/-- The block behind a token: its elements begin behind 'o' others, of 'sz' cells each; 'n' of them are told, there is room for 'cap'. -/
structure Blk where
  b : Nat
  o : Nat
  sz : Nat
  n : Nat
  cap : Nat
/-- What stands behind each token, and the blocks that are others' and change for nobody here. -/
structure Gh where
  m : Nat → Option Blk
  X : Nat → Prop
instance : CoeFun Gh (fun _ => Nat → Option Blk) := ⟨Gh.m⟩
def own (ρ : Gh) (b : Nat) : Prop := ∃ t k, ρ t = some k ∧ k.b = b
def owns (ρ : Gh) (b : Nat) : Prop := own ρ b ∨ ρ.X b

/-- What a value stands for. -/
inductive RV (ρ : Gh) (w : World) : AV → Value → Prop
  | v (x : Value) : RV ρ w (.v x) x
  | dead (y : Value) : RV ρ w .dead y
  | nil (a : Option Addr) : RV ρ w .nil (.slice a 0 0)
  | sl (xs : List (List AV)) (a : Option Addr) (c sz : Nat) (U : Nat → Nat → Value) (hc : xs.length ≤ c) (ha : 0 < xs.length → a.isSome = true)
      (hrow : ∀ (i : Nat) (row : List AV), xs[i]? = some row → row.length = sz)
      (hcell : ∀ (i : Nat) (row : List AV) (j : Nat) (x : AV), xs[i]? = some row → row[j]? = some x → frozen x = true ∧ ∃ ad, a = some ad ∧ ¬ owns ρ ad.block ∧ w.cell? (ad.add (i * sz + j)) = some (U i j))
      (hsub : ∀ (i : Nat) (row : List AV) (j : Nat) (x : AV), xs[i]? = some row → row[j]? = some x → RV ρ w x (U i j)) : RV ρ w (.sl xs) (.slice a xs.length c)
  | cl (xs : List (List AV)) (a : Option Addr) (h : RV ρ w (.sl xs) (.slice a xs.length xs.length)) : RV ρ w (.cl xs) (.slice a xs.length xs.length)
  | os (t off len : Nat) (k : Blk) (a : Option Addr) (ht : ρ t = some k) (hn : off + len ≤ k.n) (hcap : k.n ≤ k.cap) (ha : off < k.cap → a = some ⟨k.b, (k.o + off) * k.sz, none⟩) : RV ρ w (.os t off len) (.slice a len (k.cap - off))
  | osn (t : Nat) (a : Option Addr) (ht : ρ t = none) : RV ρ w (.os t 0 0) (.slice a 0 0)
  | pt (t i j : Nat) (k : Blk) (ht : ρ t = some k) : RV ρ w (.pt t i j) (.pointer (some ⟨k.b, (k.o + i) * k.sz + j, none⟩))
  | rp (cells : List AV) (a : Addr) (U : Nat → Value) (hcell : ∀ (j : Nat) (x : AV), cells[j]? = some x → ¬ owns ρ a.block ∧ w.cell? (a.add j) = some (U j))
      (hsub : ∀ (j : Nat) (x : AV), cells[j]? = some x → RV ρ w x (U j)) : RV ρ w (.rp cells) (.pointer (some a))
  | mp (t : Nat) (k : Blk) (ht : ρ t = some k) : RV ρ w (.mp t) (.map (some k.b))
  | clo (f : FuncId) (caps : List AV) (vs : Array Value) (hl : caps.length = vs.size) (hsub : ∀ (j : Nat) (x : AV) (y : Value), caps[j]? = some x → vs[j]? = some y → RV ρ w x y) : RV ρ w (.clo f caps) (.func (.func f) #[] vs)
  | agg (l : List AV) (vs : Array Value) (hl : l.length = vs.size) (hsub : ∀ (j : Nat) (x : AV) (y : Value), l[j]? = some x → vs[j]? = some y → RV ρ w x y) : RV ρ w (.agg l) (.agg vs)
  | tup (l : List AV) (vs : Array Value) (hl : l.length = vs.size) (hsub : ∀ (j : Nat) (x : AV) (y : Value), l[j]? = some x → vs[j]? = some y → RV ρ w x y) : RV ρ w (.tup l) (.tuple vs)

/-- Side by side. -/
def RVs (ρ : Gh) (w : World) (l : List AV) (vs : List Value) : Prop := l.length = vs.length ∧ ∀ (j : Nat) (x : AV) (y : Value), l[j]? = some x → vs[j]? = some y → RV ρ w x y
theorem RVs.nil' {ρ : Gh} {w : World} : RVs ρ w [] [] := ⟨rfl, fun j x y h => by simp at h⟩
theorem RVs.cons' {ρ : Gh} {w : World} {x : AV} {l : List AV} {y : Value} {vs : List Value} (h : RV ρ w x y) (hs : RVs ρ w l vs) : RVs ρ w (x :: l) (y :: vs) :=
  ⟨by simp [hs.1], fun j x' y' h1 h2 => by
    cases j with
    | zero => simp at h1 h2; subst h1; subst h2; exact h
    | succ j => simp at h1 h2; exact hs.2 j x' y' h1 h2⟩
theorem RVs.head {ρ : Gh} {w : World} {x : AV} {l : List AV} {vs : List Value} (h : RVs ρ w (x :: l) vs) : ∃ y r, vs = y :: r ∧ RV ρ w x y ∧ RVs ρ w l r := by
  cases vs with
  | nil => have := h.1; simp at this
  | cons y r => exact ⟨y, r, rfl, h.2 0 x y rfl rfl, by have := h.1; simpa using this, fun j x' y' h1 h2 => h.2 (j + 1) x' y' (by simpa using h1) (by simpa using h2)⟩

/-- What is kept of the world, from one state to a later one; 'mv': the tokens that may stand for something else now. -/
structure Ext (ρ : Gh) (w : World) (ρ' : Gh) (w' : World) (mv : List Nat) : Prop where
  os : w'.os = w.os
  tape : w'.tape = w.tape
  output : w'.output = w.output
  size : w.heap.size ≤ w'.heap.size
  keep : ∀ b, b < w.heap.size → ¬ own ρ b → w'.heap[b]? = w.heap[b]?
  new : ∀ b, own ρ' b → own ρ b ∨ w.heap.size ≤ b
  X : ρ'.X = ρ.X
  tok : ∀ t, t ∉ mv → ρ' t = ρ t
theorem Ext.refl (ρ : Gh) (w : World) (mv : List Nat) : Ext ρ w ρ w mv := ⟨rfl, rfl, rfl, Nat.le_refl _, fun _ _ _ => rfl, fun _ h => .inl h, rfl, fun _ _ => rfl⟩
theorem Ext.trans {ρ ρ1 ρ2 : Gh} {w w1 w2 : World} {m1 m2 : List Nat} (h : Ext ρ w ρ1 w1 m1) (g : Ext ρ1 w1 ρ2 w2 m2) : Ext ρ w ρ2 w2 (m1 ++ m2) where
  os := g.os.trans h.os
  tape := g.tape.trans h.tape
  output := g.output.trans h.output
  size := Nat.le_trans h.size g.size
  keep := fun b hb ho => (g.keep b (Nat.lt_of_lt_of_le hb h.size) (fun h1 => (h.new b h1).elim ho (fun h2 => by omega))).trans (h.keep b hb ho)
  new := fun b hb => (g.new b hb).elim (h.new b) (fun h2 => .inr (Nat.le_trans h.size h2))
  X := g.X.trans h.X
  tok := fun t ht => by simp at ht; exact (g.tok t ht.2).trans (h.tok t ht.1)
theorem Ext.mono {ρ ρ' : Gh} {w w' : World} {m m' : List Nat} (h : Ext ρ w ρ' w' m) (hm : ∀ t, t ∈ m → t ∈ m') : Ext ρ w ρ' w' m' :=
  { h with tok := fun t ht => h.tok t (fun h1 => ht (hm t h1)) }

theorem lt_of_cell {w : World} {a : Addr} {y : Value} (h : w.cell? a = some y) : a.block < w.heap.size := World.block_lt_of_cell? w _ h
theorem add_block (a : Addr) (n : Nat) : (a.add n).block = a.block := by unfold Addr.add; split <;> rfl
theorem cell_keep {w w' : World} {a : Addr} (h : w'.heap[a.block]? = w.heap[a.block]?) : w'.cell? a = w.cell? a := by simp [World.cell?, h]

theorem killL_get (ts : List Nat) : ∀ (l : List AV) (j : Nat), (killL ts l)[j]? = (l[j]?).map (killV ts)
  | [], j => by simp [killL]
  | x :: r, 0 => by simp [killL]
  | x :: r, j + 1 => by simp [killL, killL_get ts r j]
theorem killL_len (ts : List Nat) : ∀ l : List AV, (killL ts l).length = l.length
  | [] => rfl
  | x :: r => by simp [killL, killL_len ts r]
theorem killV_frozen (ts : List Nat) : ∀ x : AV, frozen x = true → killV ts x = x
  | .v _, _ => by simp [killV]
  | .nil, _ => rfl
  | .sl _, _ => rfl
  | .cl _, h | .os .., h | .pt .., h | .rp _, h | .mp _, h | .clo .., h | .agg _, h | .tup _, h | .dead, h => by simp [frozen] at h

/-- What a value stood for it stands for later on, too, but for what moved. -/
theorem RV.ext {ρ ρ' : Gh} {w w' : World} {mv : List Nat} (hx : Ext ρ w ρ' w' mv) {x : AV} {y : Value} (h : RV ρ w x y) : RV ρ' w' (killV mv x) y := by
  have cell : ∀ {a : Addr} {u : Value}, ¬ owns ρ a.block → w.cell? a = some u → ¬ owns ρ' a.block ∧ w'.cell? a = some u := fun {a u} ho hu => by
    have hlt := lt_of_cell hu
    refine ⟨fun h1 => ?_, ?_⟩
    · rcases h1 with h1 | h1
      · exact (hx.new _ h1).elim (fun h2 => ho (.inl h2)) (fun h2 => by omega)
      · rw [hx.X] at h1; exact ho (.inr h1)
    · rw [cell_keep (hx.keep _ hlt (fun h1 => ho (.inl h1)))]; exact hu
  induction h with
  | v x => exact .v x
  | dead y => exact .dead y
  | nil a => exact .nil a
  | sl xs a c sz U hc ha hrow hcell hsub ih =>
    refine .sl xs a c sz U hc ha hrow (fun i row j x h1 h2 => ?_) (fun i row j x h1 h2 => ?_)
    · obtain ⟨hf, ad, e, ho, hu⟩ := hcell i row j x h1 h2
      have := cell (a := ad.add (i * sz + j)) (by rw [add_block]; exact ho) hu
      rw [add_block] at this
      exact ⟨hf, ad, e, this⟩
    · have := ih i row j x h1 h2
      rwa [killV_frozen mv x (hcell i row j x h1 h2).1] at this
  | cl xs a h ih => exact .cl xs a ih
  | os t off len k a ht hn hcap ha =>
    unfold killV
    split
    · exact .dead _
    · rename_i hm
      exact .os t off len k a ((hx.tok t (by simpa using hm)).trans ht) hn hcap ha
  | osn t a ht =>
    unfold killV
    split
    · exact .dead _
    · rename_i hm
      exact .osn t a ((hx.tok t (by simpa using hm)).trans ht)
  | pt t i j k ht =>
    unfold killV
    split
    · exact .dead _
    · rename_i hm
      exact .pt t i j k ((hx.tok t (by simpa using hm)).trans ht)
  | rp cells a U hcell hsub ih =>
    unfold killV
    refine .rp _ a U (fun j x h1 => ?_) (fun j x h1 => ?_)
    · rw [killL_get] at h1
      obtain ⟨x0, h2, rfl⟩ := Option.map_eq_some_iff.1 h1
      obtain ⟨ho, hu⟩ := hcell j x0 h2
      have := cell (a := a.add j) (by rw [add_block]; exact ho) hu
      rw [add_block] at this
      exact this
    · rw [killL_get] at h1
      obtain ⟨x0, h2, rfl⟩ := Option.map_eq_some_iff.1 h1
      exact ih j x0 h2
  | mp t k ht =>
    unfold killV
    split
    · exact .dead _
    · rename_i hm
      exact .mp t k ((hx.tok t (by simpa using hm)).trans ht)
  | clo f caps vs hl hsub ih =>
    unfold killV
    refine .clo f _ vs (by rw [killL_len]; exact hl) (fun j x y h1 h2 => ?_)
    rw [killL_get] at h1
    obtain ⟨x0, h3, rfl⟩ := Option.map_eq_some_iff.1 h1
    exact ih j x0 y h3 h2
  | agg l vs hl hsub ih =>
    unfold killV
    refine .agg _ vs (by rw [killL_len]; exact hl) (fun j x y h1 h2 => ?_)
    rw [killL_get] at h1
    obtain ⟨x0, h3, rfl⟩ := Option.map_eq_some_iff.1 h1
    exact ih j x0 y h3 h2
  | tup l vs hl hsub ih =>
    unfold killV
    refine .tup _ vs (by rw [killL_len]; exact hl) (fun j x y h1 h2 => ?_)
    rw [killL_get] at h1
    obtain ⟨x0, h3, rfl⟩ := Option.map_eq_some_iff.1 h1
    exact ih j x0 y h3 h2
end Go.Proofs.YtabdcfcnngnnoaaDoor.E
