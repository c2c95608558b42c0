/- A way, instruction by instruction, and what is asked for further on. No program here. -/
import Derived.Test.YtdnekkkpngnmkaaDoorL1
set_option linter.unusedVariables false
set_option linter.unusedSimpArgs false
namespace Go.Proofs.YtdnekkkpngnmkaaDoor.E
open Go
def Ch {α : Type} (R : α → α → Prop) : List α → Prop
  | [] => True
  | [_] => True
  | x :: y :: l => R x y ∧ Ch R (y :: l)
theorem ch_snoc {α : Type} {R : α → α → Prop} : ∀ (w : List α) (x y : α), Ch R (w ++ [x]) → R x y → Ch R (w ++ [x] ++ [y])
  | [], x, y, _, h => ⟨h, trivial⟩
  | [a], x, y, h, hxy => ⟨h.1, hxy, trivial⟩
  | a :: b :: w, x, y, h, hxy => ⟨h.1, ch_snoc (b :: w) x y h.2 hxy⟩
theorem ch_tail {α : Type} {R : α → α → Prop} : ∀ (w l : List α), Ch R (w ++ l) → Ch R l
  | [], l, h => h
  | [a], [], h => trivial
  | [a], b :: l, h => h.2
  | a :: b :: w, l, h => ch_tail (b :: w) l h.2
def Nxt (bl : List XB) (x y : Int × Int) : Prop := (y.1 = x.1 ∧ y.2 = x.2 + 1) ∨ (x.2 + 1 = (U.blk bl x.1.toNat).code.length ∧ y.2 = 0 ∧ y.1 ∈ U.nextAt bl x.1)
def Val (bl : List XB) (x : Int × Int) : Prop := 0 ≤ x.1 ∧ x.1.toNat < bl.length ∧ 0 ≤ x.2 ∧ x.2.toNat < (U.blk bl x.1.toNat).code.length
namespace U
def upP (b : Int) : Nat → Nat → List (Int × Int)
  | _, 0 => []
  | i, d + 1 => (b, (i : Int)) :: upP b (i + 1) d
def askF (bl : List XB) : List (Int × Int) → List Int
  | [] => []
  | x :: l => backL (ins (blk bl x.1.toNat).code x.2.toNat) (askF bl l)
end U
theorem upP_len (b : Int) : ∀ d i, (U.upP b i d).length = d
  | 0, i => rfl
  | d + 1, i => by unfold U.upP; rw [List.length_cons, upP_len b d]
theorem upP_mem (b : Int) : ∀ d i x, x ∈ U.upP b i d → x.1 = b ∧ (i : Int) ≤ x.2 ∧ x.2 < i + d
  | 0, i, x, h => by simp [U.upP] at h
  | d + 1, i, x, h => by
    unfold U.upP at h
    rcases List.mem_cons.1 h with rfl | h
    · exact ⟨rfl, by omega, by show (i : Int) < _; omega⟩
    · obtain ⟨h1, h2, h3⟩ := upP_mem b d (i + 1) x h
      exact ⟨h1, by omega, by omega⟩
theorem ch_upP (bl : List XB) (b : Int) : ∀ (d i : Nat) (w : List (Int × Int)), i + (d + 1) = (U.blk bl b.toNat).code.length → Ch (Nxt bl) (w ++ [(b, (i : Int))]) →
    Ch (Nxt bl) (w ++ U.upP b i (d + 1)) ∧ ∀ t ∈ U.nextAt bl b, Ch (Nxt bl) (w ++ U.upP b i (d + 1) ++ [(t, 0)])
  | 0, i, w, hl, h => ⟨h, fun t ht => ch_snoc w (b, (i : Int)) (t, 0) h (.inr ⟨by show (i : Int) + 1 = ((U.blk bl b.toNat).code.length : Int); omega, rfl, ht⟩)⟩
  | d + 1, i, w, hl, h => by
    have e : w ++ U.upP b i (d + 1 + 1) = (w ++ [(b, (i : Int))]) ++ U.upP b (i + 1) (d + 1) := by
      show w ++ ((b, (i : Int)) :: U.upP b (i + 1) (d + 1)) = _
      rw [List.append_assoc]; rfl
    rw [e]
    exact ch_upP bl b d (i + 1) (w ++ [(b, (i : Int))]) (by omega) (ch_snoc w _ _ h (.inl ⟨rfl, by show ((i + 1 : Nat) : Int) = (i : Int) + 1; omega⟩))
theorem ask_Wd (bl : List XB) : ∀ l, Bit.Wd (U.askF bl l)
  | [] => Bit.Wd.nil
  | x :: l => backL_Wd (ask_Wd bl l)
theorem ask_live {bl : List XB} (hu : UsesOk bl) : ∀ (r : List (Int × Int)) (x : Int × Int), Ch (Nxt bl) (x :: r) → (∀ y ∈ x :: r, Val bl y) →
    (∀ v, Bit.tb (U.askF bl r) v = true → LiveAt bl x.1.toNat (x.2.toNat + 1) v) ∧ ∀ v, Bit.tb (U.askF bl (x :: r)) v = true → LiveAt bl x.1.toNat x.2.toNat v := by
  intro r
  have fin : ∀ (r : List (Int × Int)) (x : Int × Int), Val bl x → (∀ v, Bit.tb (U.askF bl r) v = true → LiveAt bl x.1.toNat (x.2.toNat + 1) v) → ∀ v, Bit.tb (U.askF bl (x :: r)) v = true → LiveAt bl x.1.toNat x.2.toNat v := fun r x hv h v hb => by
    obtain ⟨v1, v2, v3, v4⟩ := hv
    have : Bit.tb (U.backL (U.ins (U.blk bl x.1.toNat).code x.2.toNat) (U.askF bl r)) v = true := hb
    rw [tb_backL (ask_Wd bl r) (uses4096 hu v2 _ (ins_mem v4))] at this
    rcases this with q | ⟨q1, q2⟩
    · exact .use _ _ v v4 q
    · exact .step _ _ v v4 q2 (h v q1)
  induction r with
  | nil =>
    intro x hc hv
    have h0 : ∀ v, Bit.tb (U.askF bl []) v = true → LiveAt bl x.1.toNat (x.2.toNat + 1) v := fun v hb => by
      have : Bit.tb [] v = true := hb
      rw [Bit.tb_nil] at this; cases this
    exact ⟨h0, fin [] x (hv x (by simp)) h0⟩
  | cons y r ih =>
    intro x hc hv
    obtain ⟨_, h2⟩ := ih y hc.2 (fun z hz => hv z (List.mem_cons_of_mem _ hz))
    have h0 : ∀ v, Bit.tb (U.askF bl (y :: r)) v = true → LiveAt bl x.1.toNat (x.2.toNat + 1) v := fun v hb => by
      have hL := h2 v hb
      obtain ⟨v1, v2, v3, v4⟩ := hv x (by simp)
      rcases hc.1 with ⟨e1, e2⟩ | ⟨e1, e2, e3⟩
      · rw [e1, e2] at hL
        rwa [show (x.2 + 1).toNat = x.2.toNat + 1 by omega] at hL
      · rw [e2] at hL
        exact .next _ _ v y.1 (by omega) (by rw [show ((x.1.toNat : Nat) : Int) = x.1 by omega]; exact e3) hL
    exact ⟨h0, fin (y :: r) x (hv x (by simp)) h0⟩
end Go.Proofs.YtdnekkkpngnmkaaDoor.E
