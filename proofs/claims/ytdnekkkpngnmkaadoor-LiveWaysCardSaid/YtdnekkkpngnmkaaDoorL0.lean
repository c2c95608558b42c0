/- What is live: the plain law of the queue. No program here. -/
import Derived.Test.YtdnekkkpngnmkaaDoorB0
import Derived.Test.YtdnekkkpngnmkaaDoorB1x
import Derived.Test.YtdnekkkpngnmkaaDoorD0x
import Derived.Test.YtdnekkkpngnmkaaDoor05h
set_option linter.unusedVariables false
set_option linter.unusedSimpArgs false
namespace Go.Proofs.YtdnekkkpngnmkaaDoor.E
open Go
namespace U
/-- What is live ahead of an instruction, by what is live behind it. -/
def backL (x : XI) (s : List Int) : List Int := withL (if has x.op 68 then withoutL s [x.d] else s) (uses x)
def thrL (code : List XI) (i : Nat) (s : List Int) : List Int := (code.drop i).foldr backL s
def joinI (nx : List Int) (inn : List (List Int)) : List Int := nx.foldl (fun s t => Bit.joinL [s, inn.getD t.toNat []] []) []
end U
/-- A variable is asked for yet. -/
inductive LiveAt (bl : List XB) : Nat → Nat → Nat → Prop
  | use (b i v : Nat) : i < (U.blk bl b).code.length → (v : Int) ∈ U.uses (U.ins (U.blk bl b).code i) → LiveAt bl b i v
  | step (b i v : Nat) : i < (U.blk bl b).code.length → ¬ (U.has (U.ins (U.blk bl b).code i).op 68 = true ∧ (U.ins (U.blk bl b).code i).d = v) → LiveAt bl b (i + 1) v → LiveAt bl b i v
  | next (b i v : Nat) (t : Int) : (U.blk bl b).code.length ≤ i → t ∈ U.nextAt bl b → LiveAt bl t.toNat 0 v → LiveAt bl b i v
theorem withL_Wd {s l : List Int} (h : Bit.Wd s) : Bit.Wd (U.withL s l) := Bit.neatL_Wd (Bit.puts_Wd l s h)
theorem withoutL_Wd {s l : List Int} (h : Bit.Wd s) : Bit.Wd (U.withoutL s l) := Bit.neatL_Wd (Bit.drops_Wd l s h)
theorem tb_withL (s l : List Int) (m : Nat) : Bit.tb (U.withL s l) m = (Bit.tb s m || (decide ((m : Int) ∈ l) && decide ((m : Int) < 4096))) := by
  unfold U.withL; rw [Bit.tb_neatL, Bit.tb_puts]
theorem tb_withoutL {s l : List Int} (h : Bit.Wd s) (m : Nat) : Bit.tb (U.withoutL s l) m = (Bit.tb s m && !decide ((m : Int) ∈ l)) := by
  unfold U.withoutL; rw [Bit.tb_neatL, Bit.tb_drops l m s h]
theorem backL_Wd {x : XI} {s : List Int} (h : Bit.Wd s) : Bit.Wd (U.backL x s) := by
  unfold U.backL
  split
  · exact withL_Wd (withoutL_Wd h)
  · exact withL_Wd h
theorem backL_neat (x : XI) (s : List Int) : Bit.neatL (U.backL x s) = U.backL x s := by unfold U.backL U.withL; exact Bit.neatL_neatL _
theorem tb_backL {x : XI} {s : List Int} (h : Bit.Wd s) (hu : ∀ v ∈ U.uses x, v < 4096) (m : Nat) :
    Bit.tb (U.backL x s) m = true ↔ (m : Int) ∈ U.uses x ∨ (Bit.tb s m = true ∧ ¬ (U.has x.op 68 = true ∧ x.d = m)) := by
  unfold U.backL
  rw [tb_withL, Bool.or_eq_true, Bool.and_eq_true, decide_eq_true_eq, decide_eq_true_eq]
  cases hd : U.has x.op 68 with
  | true =>
    rw [if_pos rfl, tb_withoutL h, Bool.and_eq_true, Bool.not_eq_true', decide_eq_false_iff_not, List.mem_singleton]
    constructor
    · rintro (⟨h1, h2⟩ | h1)
      · exact .inr ⟨h1, fun q => h2 q.2.symm⟩
      · exact .inl h1.1
    · rintro (h1 | ⟨h1, h2⟩)
      · exact .inr ⟨h1, hu _ h1⟩
      · exact .inl ⟨h1, fun q => h2 ⟨rfl, q.symm⟩⟩
  | false =>
    rw [if_neg (by simp)]
    constructor
    · rintro (h1 | h1)
      · exact .inr ⟨h1, fun q => by cases q.1⟩
      · exact .inl h1.1
    · rintro (h1 | ⟨h1, _⟩)
      · exact .inr ⟨h1, hu _ h1⟩
      · exact .inl h1
theorem thr_Wd {s : List Int} (h : Bit.Wd s) : ∀ l : List XI, Bit.Wd (l.foldr U.backL s)
  | [] => h
  | x :: l => backL_Wd (thr_Wd h l)
theorem thr_mono {s s' : List Int} (h : Bit.Wd s) (h' : Bit.Wd s') (hs : ∀ v, Bit.tb s v = true → Bit.tb s' v = true) : ∀ l : List XI, (∀ x ∈ l, ∀ v ∈ U.uses x, v < 4096) → ∀ v, Bit.tb (l.foldr U.backL s) v = true → Bit.tb (l.foldr U.backL s') v = true
  | [], _, v, hv => hs v hv
  | x :: l, hu, v, hv => by
    rw [List.foldr_cons, tb_backL (thr_Wd h l) (hu x (by simp))] at hv
    rw [List.foldr_cons, tb_backL (thr_Wd h' l) (hu x (by simp))]
    rcases hv with hv | ⟨h1, h2⟩
    · exact .inl hv
    · exact .inr ⟨thr_mono h h' hs l (fun y hy => hu y (List.mem_cons_of_mem _ hy)) v h1, h2⟩
theorem thr_neat (s : List Int) : ∀ l : List XI, (l = [] → Bit.neatL s = s) → Bit.neatL (l.foldr U.backL s) = l.foldr U.backL s
  | [], h => h rfl
  | x :: l, _ => backL_neat x _
theorem drop_ins {l : List XI} {i : Nat} (h : i < l.length) : l.drop i = U.ins l i :: l.drop (i + 1) := drop_cons' l h
/-- Through a block, down to an instruction. -/
theorem tb_thr {bl : List XB} {b : Nat} {s : List Int} (h : Bit.Wd s) (hu : ∀ x ∈ (U.blk bl b).code, ∀ v ∈ U.uses x, v < 4096) (hs : ∀ v, Bit.tb s v = true ↔ ∃ t ∈ U.nextAt bl b, LiveAt bl t.toNat 0 v) :
    ∀ (d i : Nat), i + d = (U.blk bl b).code.length → ∀ v, Bit.tb (U.thrL (U.blk bl b).code i s) v = true ↔ LiveAt bl b i v
  | 0, i, hd, v => by
    unfold U.thrL
    rw [List.drop_of_length_le (by omega), List.foldr_nil, hs v]
    constructor
    · rintro ⟨t, h1, h2⟩
      exact .next b i v t (by omega) h1 h2
    · intro h1
      cases h1 with
      | use _ _ _ h2 _ => omega
      | step _ _ _ h2 _ _ => omega
      | next _ _ _ t _ h3 h4 => exact ⟨t, h3, h4⟩
  | d + 1, i, hd, v => by
    have hi : i < (U.blk bl b).code.length := by omega
    have ih := tb_thr h hu hs d (i + 1) (by omega) v
    unfold U.thrL at ih ⊢
    rw [drop_ins hi, List.foldr_cons, tb_backL (thr_Wd h _) (hu _ (ins_mem hi)), ih]
    constructor
    · rintro (h1 | ⟨h1, h2⟩)
      · exact .use b i v hi h1
      · exact .step b i v hi h2 h1
    · intro h1
      cases h1 with
      | use _ _ _ _ h2 => exact .inl h2
      | step _ _ _ _ h2 h3 => exact .inr ⟨h3, h2⟩
      | next _ _ _ t h2 _ _ => omega
/-- One way only: sound at each step. -/
theorem tb_thr_live {bl : List XB} {b : Nat} {s : List Int} (h : Bit.Wd s) (hu : ∀ x ∈ (U.blk bl b).code, ∀ v ∈ U.uses x, v < 4096) (hs : ∀ v, Bit.tb s v = true → ∃ t ∈ U.nextAt bl b, LiveAt bl t.toNat 0 v) :
    ∀ (d i : Nat), i + d = (U.blk bl b).code.length → ∀ v, Bit.tb (U.thrL (U.blk bl b).code i s) v = true → LiveAt bl b i v
  | 0, i, hd, v, hv => by
    unfold U.thrL at hv
    rw [List.drop_of_length_le (by omega), List.foldr_nil] at hv
    obtain ⟨t, h1, h2⟩ := hs v hv
    exact .next b i v t (by omega) h1 h2
  | d + 1, i, hd, v, hv => by
    have hi : i < (U.blk bl b).code.length := by omega
    have ih := tb_thr_live h hu hs d (i + 1) (by omega) v
    unfold U.thrL at ih hv
    rw [drop_ins hi, List.foldr_cons, tb_backL (thr_Wd h _) (hu _ (ins_mem hi))] at hv
    rcases hv with h1 | ⟨h1, h2⟩
    · exact .use b i v hi h1
    · exact .step b i v hi h2 (ih h1)
def WdA (inn : List (List Int)) : Prop := ∀ l ∈ inn, Bit.Wd l
theorem WdA.at {inn : List (List Int)} (h : WdA inn) (i : Nat) : Bit.Wd (inn.getD i []) := by
  rw [List.getD_eq_getElem?_getD]
  rcases Nat.lt_or_ge i inn.length with hi | hi
  · rw [List.getElem?_eq_getElem hi]; exact h _ (List.getElem_mem hi)
  · rw [List.getElem?_eq_none hi]; exact Bit.Wd.nil
theorem join2_Wd {a b : List Int} (ha : Bit.Wd a) (hb : Bit.Wd b) : Bit.Wd (Bit.joinL [a, b] []) := Bit.join_Wd _ _ Bit.Wd.nil (fun l hl => by
  simp only [List.mem_cons, List.not_mem_nil, or_false] at hl
  rcases hl with rfl | rfl <;> assumption)
theorem tb_join2 {a b : List Int} (ha : Bit.Wd a) (hb : Bit.Wd b) (v : Nat) : Bit.tb (Bit.joinL [a, b] []) v = (Bit.tb a v || Bit.tb b v) := by
  rw [Bit.tb_join _ _ Bit.Wd.nil (fun l hl => by
    simp only [List.mem_cons, List.not_mem_nil, or_false] at hl
    rcases hl with rfl | rfl <;> assumption), Bit.tb_nil]
  simp
theorem join2_neat (a b : List Int) : Bit.neatL (Bit.joinL [a, b] []) = Bit.joinL [a, b] [] := by
  unfold Bit.joinL
  rw [List.foldl_cons, List.foldl_cons, List.foldl_nil, Bit.opL_neat]
theorem joinI_gen {inn : List (List Int)} (h : WdA inn) : ∀ (nx : List Int) (s : List Int), Bit.Wd s → Bit.neatL s = s →
    Bit.Wd (nx.foldl (fun s t => Bit.joinL [s, inn.getD t.toNat []] []) s) ∧ Bit.neatL (nx.foldl (fun s t => Bit.joinL [s, inn.getD t.toNat []] []) s) = nx.foldl (fun s t => Bit.joinL [s, inn.getD t.toNat []] []) s ∧
    ∀ v, Bit.tb (nx.foldl (fun s t => Bit.joinL [s, inn.getD t.toNat []] []) s) v = true ↔ Bit.tb s v = true ∨ ∃ t ∈ nx, Bit.tb (inn.getD t.toNat []) v = true
  | [], s, hs, hn => ⟨hs, hn, fun v => by simp⟩
  | t :: nx, s, hs, hn => by
    obtain ⟨h1, h2, h3⟩ := joinI_gen h nx (Bit.joinL [s, inn.getD t.toNat []] []) (join2_Wd hs (h.at _)) (join2_neat _ _)
    refine ⟨h1, h2, fun v => ?_⟩
    rw [List.foldl_cons, h3 v, tb_join2 hs (h.at _), Bool.or_eq_true]
    constructor
    · rintro ((q | q) | ⟨u, q1, q2⟩)
      · exact .inl q
      · exact .inr ⟨t, by simp, q⟩
      · exact .inr ⟨u, List.mem_cons_of_mem _ q1, q2⟩
    · rintro (q | ⟨u, q1, q2⟩)
      · exact .inl (.inl q)
      · rcases List.mem_cons.1 q1 with rfl | q1
        · exact .inl (.inr q2)
        · exact .inr ⟨u, q1, q2⟩
theorem joinI_ok {inn : List (List Int)} (h : WdA inn) (nx : List Int) : Bit.Wd (U.joinI nx inn) ∧ Bit.neatL (U.joinI nx inn) = U.joinI nx inn ∧ ∀ v, Bit.tb (U.joinI nx inn) v = true ↔ ∃ t ∈ nx, Bit.tb (inn.getD t.toNat []) v = true := by
  obtain ⟨h1, h2, h3⟩ := joinI_gen h nx [] Bit.Wd.nil rfl
  exact ⟨h1, h2, fun v => by rw [show U.joinI nx inn = nx.foldl (fun s t => Bit.joinL [s, inn.getD t.toNat []] []) [] from rfl, h3 v, Bit.tb_nil]; simp⟩
theorem sum_lt {α : Type} (f g : α → Nat) : ∀ l : List α, (∀ x ∈ l, f x ≤ g x) → (∃ x ∈ l, f x < g x) → (l.map f).sum < (l.map g).sum
  | [], _, ⟨x, hx, _⟩ => by simp at hx
  | a :: l, h, ⟨x, hx, hlt⟩ => by
    simp only [List.map_cons, List.sum_cons]
    have h1 := h a (by simp)
    have hle : (l.map f).sum ≤ (l.map g).sum := by
      have : ∀ m : List α, (∀ x ∈ m, f x ≤ g x) → (m.map f).sum ≤ (m.map g).sum := by
        intro m
        induction m with
        | nil => intro _; exact Nat.le_refl _
        | cons b m ih =>
          intro hm
          simp only [List.map_cons, List.sum_cons]
          have := hm b (by simp)
          have := ih (fun x hx => hm x (List.mem_cons_of_mem _ hx))
          omega
      exact this l (fun x hx => h x (List.mem_cons_of_mem _ hx))
    rcases List.mem_cons.1 hx with rfl | hx
    · omega
    · have := sum_lt f g l (fun x hx => h x (List.mem_cons_of_mem _ hx)) ⟨x, hx, hlt⟩
      omega
theorem sum_le {α : Type} (f : α → Nat) (k : Nat) : ∀ l : List α, (∀ x ∈ l, f x ≤ k) → (l.map f).sum ≤ k * l.length
  | [], _ => by simp
  | a :: l, h => by
    have h1 := h a (by simp)
    have h2 := sum_le f k l (fun x hx => h x (List.mem_cons_of_mem _ hx))
    simp only [List.map_cons, List.sum_cons, List.length_cons, Nat.mul_add, Nat.mul_one]
    omega
theorem countP_lt {α : Type} (p q : α → Bool) (hpq : ∀ x, p x = true → q x = true) : ∀ l : List α, (∃ x ∈ l, q x = true ∧ p x = false) → l.countP p < l.countP q
  | [], ⟨x, hx, _⟩ => by simp at hx
  | a :: l, ⟨x, hx, h1, h2⟩ => by
    have hle : l.countP p ≤ l.countP q := List.countP_mono_left (fun x _ h => hpq x h)
    rw [List.countP_cons, List.countP_cons]
    rcases List.mem_cons.1 hx with rfl | hx
    · rw [h1, h2]; simp; omega
    · have := countP_lt p q hpq l ⟨x, hx, h1, h2⟩
      cases hp : p a with
      | true => rw [hpq a hp]; simp; omega
      | false => cases q a <;> simp <;> omega
/-- How many numbers are lacking yet. -/
def lack (l : List Int) : Nat := (List.range 48).countP fun v => !Bit.tb l v
def mu (n : Nat) (inn : List (List Int)) : Nat := ((List.range n).map fun b => lack (inn.getD b [])).sum
theorem lack_le (l : List Int) : lack l ≤ 48 := by
  have := List.countP_le_length (p := fun v => !Bit.tb l v) (l := List.range 48)
  simpa [lack] using this
theorem mu_le (n : Nat) (inn : List (List Int)) : mu n inn ≤ 48 * n := by
  have := sum_le (fun b => lack (inn.getD b [])) 48 (List.range n) (fun b _ => lack_le _)
  simpa [mu] using this
theorem getD_set2 (K : List (List Int)) (i j : Nat) (v : List Int) (hi : i < K.length) : (K.set i v).getD j [] = if j = i then v else K.getD j [] := by
  rw [List.getD_eq_getElem?_getD, List.getD_eq_getElem?_getD, List.getElem?_set]
  by_cases e : i = j
  · subst e; rw [if_pos rfl, if_pos hi, if_pos rfl]; rfl
  · rw [if_neg e, if_neg (fun q => e q.symm)]
section
variable (bl : List XB)
def U.aheadI (inn : List (List Int)) (b : Nat) : List Int := U.thrL (U.blk bl b).code 0 (U.joinI (U.nextAt bl b) inn)
structure UsesOk : Prop where
  ne : ∀ b, b < bl.length → 0 < (U.blk bl b).code.length
  uses : ∀ b, b < bl.length → ∀ x ∈ (U.blk bl b).code, ∀ v ∈ U.uses x, 0 ≤ v ∧ v < 48
  next : ∀ x : Int, 0 ≤ x → x < bl.length → ∀ y ∈ U.nextAt bl x, 0 ≤ y ∧ y < bl.length
structure LInv (inn out : List (List Int)) (q : List Int) : Prop where
  len1 : inn.length = bl.length
  len2 : out.length = bl.length
  wd : WdA inn
  wdo : WdA out
  neat : ∀ l ∈ inn, Bit.neatL l = l
  que : ∀ x ∈ q, 0 ≤ x ∧ x < bl.length
  sound : ∀ b v, Bit.tb (inn.getD b []) v = true → LiveAt bl b 0 v
  small : ∀ b v, Bit.tb (inn.getD b []) v = true → v < 48
  mono : ∀ b, b < bl.length → ∀ v, Bit.tb (inn.getD b []) v = true → Bit.tb (U.aheadI bl inn b) v = true
  fix : ∀ b : Nat, b < bl.length → (b : Int) ∉ q → out.getD b [] = U.joinI (U.nextAt bl b) inn ∧ inn.getD b [] = U.aheadI bl inn b
variable {bl} (hu : UsesOk bl)
include hu
theorem uses4096 {b : Nat} (hb : b < bl.length) : ∀ x ∈ (U.blk bl b).code, ∀ v ∈ U.uses x, v < 4096 := fun x hx v hv => by
  have := hu.uses b hb x hx v hv
  omega
omit hu in
theorem thr_small {s : List Int} (hs : Bit.Wd s) (h : ∀ v, Bit.tb s v = true → v < 48) : ∀ l : List XI, (∀ x ∈ l, ∀ v ∈ U.uses x, 0 ≤ v ∧ v < 48) → ∀ v, Bit.tb (l.foldr U.backL s) v = true → v < 48
  | [], _, v, hv => h v hv
  | x :: l, hl, v, hv => by
    rw [List.foldr_cons, tb_backL (thr_Wd hs l) (fun u q => by have := hl x (by simp) u q; omega)] at hv
    rcases hv with hv | ⟨hv, _⟩
    · have := hl x (by simp) _ hv; omega
    · exact thr_small hs h l (fun y hy => hl y (List.mem_cons_of_mem _ hy)) v hv
theorem ahead_mono {inn inn' : List (List Int)} (h : WdA inn) (h' : WdA inn') (hle : ∀ b v, Bit.tb (inn.getD b []) v = true → Bit.tb (inn'.getD b []) v = true) {b : Nat} (hb : b < bl.length) (v : Nat) (hv : Bit.tb (U.aheadI bl inn b) v = true) : Bit.tb (U.aheadI bl inn' b) v = true := by
  obtain ⟨a1, a2, a3⟩ := joinI_ok h (U.nextAt bl b)
  obtain ⟨b1, b2, b3⟩ := joinI_ok h' (U.nextAt bl b)
  refine thr_mono a1 b1 (fun u hu' => ?_) _ (fun x hx => uses4096 hu hb x (List.mem_of_mem_drop hx)) v hv
  obtain ⟨t, h1, h2⟩ := (a3 u).1 hu'
  exact (b3 u).2 ⟨t, h1, hle _ _ h2⟩
omit hu in
theorem ahead_Wd {inn : List (List Int)} (h : WdA inn) (b : Nat) : Bit.Wd (U.aheadI bl inn b) := thr_Wd (joinI_ok h _).1 _
theorem ahead_neat {inn : List (List Int)} {b : Nat} (hb : b < bl.length) : Bit.neatL (U.aheadI bl inn b) = U.aheadI bl inn b := by
  have := hu.ne b hb
  refine thr_neat _ _ (fun h => ?_)
  rw [List.drop_zero] at h
  rw [h] at this; simp at this
/-- A block whose beginning stays as it was. -/
theorem step_same {inn out : List (List Int)} {q : List Int} {b : Nat} (h : LInv bl inn out (q ++ [(b : Int)])) (hs : Bit.neatL (U.aheadI bl inn b) = Bit.neatL (inn.getD b [])) : LInv bl inn (out.set b (U.joinI (U.nextAt bl b) inn)) q := by
  have hb : b < bl.length := by have := h.que b (by simp); omega
  have hb1 : b < inn.length := by rw [h.len1]; exact hb
  have hin : inn.getD b [] = U.aheadI bl inn b := by
    rw [ahead_neat hu hb] at hs
    rw [hs]
    refine (h.neat _ ?_).symm
    rw [List.getD_eq_getElem?_getD, List.getElem?_eq_getElem hb1]; exact List.getElem_mem hb1
  refine ⟨h.len1, by rw [List.length_set]; exact h.len2, h.wd, fun l hl => ?_, h.neat, fun x hx => h.que x (List.mem_append.2 (.inl hx)), h.sound, h.small, h.mono, fun c hc hcq => ?_⟩
  · rcases List.mem_or_eq_of_mem_set hl with hl | rfl
    · exact h.wdo l hl
    · exact (joinI_ok h.wd _).1
  · rw [getD_set2 _ _ _ _ (by rw [h.len2]; exact hb)]
    by_cases e : c = b
    · subst e; rw [if_pos rfl]; exact ⟨rfl, hin⟩
    · rw [if_neg e]
      exact h.fix c hc (fun hm => by
        rcases List.mem_append.1 hm with hm | hm
        · exact hcq hm
        · have := List.mem_singleton.1 hm; omega)
theorem join_other {inn : List (List Int)} {b c : Nat} {v : List Int} (hb : b < inn.length) (hc : c < bl.length) (hn : (b : Int) ∉ U.nextAt bl c) : U.joinI (U.nextAt bl c) (inn.set b v) = U.joinI (U.nextAt bl c) inn := by
  have key : ∀ (nx : List Int) (s : List Int), (∀ t ∈ nx, t.toNat ≠ b) → nx.foldl (fun s t => Bit.joinL [s, (inn.set b v).getD t.toNat []] []) s = nx.foldl (fun s t => Bit.joinL [s, inn.getD t.toNat []] []) s := by
    intro nx
    induction nx with
    | nil => intro s _; rfl
    | cons t nx ih =>
      intro s ht
      rw [List.foldl_cons, List.foldl_cons, getD_set2 _ _ _ _ hb, if_neg (ht t (by simp)), ih _ (fun u hu' => ht u (List.mem_cons_of_mem _ hu'))]
  refine key _ [] (fun t ht e => hn ?_)
  have := hu.next c (by omega) (by omega) t ht
  rw [show (b : Int) = t by omega]; exact ht
/-- A block at whose beginning there is more: those ahead of it are looked at again. -/
theorem step_new {inn out : List (List Int)} {q pr : List Int} {b : Nat} (h : LInv bl inn out (q ++ [(b : Int)])) (hpr : ∀ x : Int, x ∈ pr ↔ ∃ c : Nat, c < bl.length ∧ x = c ∧ (b : Int) ∈ U.nextAt bl c) (hs : Bit.neatL (U.aheadI bl inn b) ≠ Bit.neatL (inn.getD b [])) :
    LInv bl (inn.set b (U.aheadI bl inn b)) (out.set b (U.joinI (U.nextAt bl b) inn)) (q ++ pr) ∧ mu bl.length (inn.set b (U.aheadI bl inn b)) < mu bl.length inn := by
  have hb : b < bl.length := by have := h.que b (by simp); omega
  have hb1 : b < inn.length := by rw [h.len1]; exact hb
  have g : ∀ c, (inn.set b (U.aheadI bl inn b)).getD c [] = if c = b then U.aheadI bl inn b else inn.getD c [] := fun c => getD_set2 _ _ _ _ hb1
  have hle : ∀ c v, Bit.tb (inn.getD c []) v = true → Bit.tb ((inn.set b (U.aheadI bl inn b)).getD c []) v = true := fun c v hv => by
    rw [g c]
    split
    · rename_i e; subst e; exact h.mono c hb v hv
    · exact hv
  have hwd : WdA (inn.set b (U.aheadI bl inn b)) := fun l hl => by
    rcases List.mem_or_eq_of_mem_set hl with hl | rfl
    · exact h.wd l hl
    · exact ahead_Wd h.wd b
  have hsm : ∀ v, Bit.tb (U.aheadI bl inn b) v = true → v < 48 := fun v hv => by
    refine thr_small (joinI_ok h.wd _).1 (fun u hu' => ?_) _ (fun x hx => hu.uses b hb x (List.mem_of_mem_drop hx)) v hv
    obtain ⟨t, _, h2⟩ := ((joinI_ok h.wd _).2.2 u).1 hu'
    exact h.small _ _ h2
  have hso : ∀ v, Bit.tb (U.aheadI bl inn b) v = true → LiveAt bl b 0 v := fun v hv => by
    refine tb_thr_live (joinI_ok h.wd (U.nextAt bl b)).1 (uses4096 hu hb) (fun u hu' => ?_) (U.blk bl b).code.length 0 (by omega) v hv
    obtain ⟨t, h1, h2⟩ := ((joinI_ok h.wd _).2.2 u).1 hu'
    exact ⟨t, h1, h.sound _ _ h2⟩
  refine ⟨⟨by rw [List.length_set]; exact h.len1, by rw [List.length_set]; exact h.len2, hwd, fun l hl => ?_, fun l hl => ?_, fun x hx => ?_, fun c v hv => ?_, fun c v hv => ?_, fun c hc v hv => ?_, fun c hc hcq => ?_⟩, ?_⟩
  · rcases List.mem_or_eq_of_mem_set hl with hl | rfl
    · exact h.wdo l hl
    · exact (joinI_ok h.wd _).1
  · rcases List.mem_or_eq_of_mem_set hl with hl | rfl
    · exact h.neat l hl
    · exact ahead_neat hu hb
  · rcases List.mem_append.1 hx with hx | hx
    · exact h.que x (List.mem_append.2 (.inl hx))
    · obtain ⟨c, h1, rfl, _⟩ := (hpr x).1 hx
      omega
  · rw [g c] at hv
    split at hv
    · rename_i e; subst e; exact hso v hv
    · exact h.sound c v hv
  · rw [g c] at hv
    split at hv
    · exact hsm v hv
    · exact h.small c v hv
  · refine ahead_mono hu h.wd hwd hle hc v ?_
    rw [g c] at hv
    split at hv
    · rename_i e; subst e; exact hv
    · exact h.mono c hc v hv
  · have hnb : (b : Int) ∉ U.nextAt bl c := fun hm => hcq (List.mem_append.2 (.inr ((hpr _).2 ⟨c, hc, rfl, hm⟩)))
    have hj := join_other hu (v := U.aheadI bl inn b) hb1 hc hnb
    have ha : U.aheadI bl (inn.set b (U.aheadI bl inn b)) c = U.aheadI bl inn c := by unfold U.aheadI; unfold U.aheadI at hj; rw [hj]
    rw [hj, ha, g c, getD_set2 _ _ _ _ (by rw [h.len2]; exact hb)]
    by_cases e : c = b
    · subst e; rw [if_pos rfl, if_pos rfl]; exact ⟨rfl, rfl⟩
    · rw [if_neg e, if_neg e]
      exact h.fix c hc (fun hm => by
        rcases List.mem_append.1 hm with hm | hm
        · exact hcq (List.mem_append.2 (.inl hm))
        · have := List.mem_singleton.1 hm; omega)
  · unfold mu
    refine sum_lt _ _ _ (fun c _ => ?_) ⟨b, by simpa using hb, ?_⟩
    · exact List.countP_mono_left (fun v _ hv => by
        cases hq : Bit.tb (inn.getD c []) v with
        | false => rfl
        | true => rw [hle c v hq] at hv; cases hv)
    · have hex : ∃ v, Bit.tb (U.aheadI bl inn b) v = true ∧ Bit.tb (inn.getD b []) v = false := Classical.byContradiction fun hno => hs (Bit.neatL_eq (Bit.tb_ext (ahead_Wd h.wd b) (h.wd.at b) (fun v => by
        cases h1 : Bit.tb (U.aheadI bl inn b) v with
        | true =>
          cases h2 : Bit.tb (inn.getD b []) v with
          | true => rfl
          | false => exact absurd ⟨v, h1, h2⟩ hno
        | false =>
          cases h2 : Bit.tb (inn.getD b []) v with
          | false => rfl
          | true => rw [h.mono b hb v h2] at h1; cases h1)))
      obtain ⟨v, h1, h2⟩ := hex
      unfold lack
      refine countP_lt _ _ (fun u hu' => ?_) _ ⟨v, by simpa using hsm v h1, by rw [h2]; rfl, by rw [g b, if_pos rfl, h1]; rfl⟩
      cases hq : Bit.tb (inn.getD b []) u with
      | false => rfl
      | true => rw [hle b u hq] at hu'; cases hu'
/-- When the queue is empty, all is told. -/
theorem live_in {inn out : List (List Int)} (h : LInv bl inn out []) : ∀ b v, b < bl.length → (Bit.tb (inn.getD b []) v = true ↔ LiveAt bl b 0 v) := by
  have key : ∀ b i v, LiveAt bl b i v → b < bl.length → i ≤ (U.blk bl b).code.length → Bit.tb (U.thrL (U.blk bl b).code i (U.joinI (U.nextAt bl b) inn)) v = true := by
    intro b i v hl
    induction hl with
    | use b i v h1 h2 =>
      intro hb _
      unfold U.thrL
      rw [drop_ins h1, List.foldr_cons, tb_backL (thr_Wd (joinI_ok h.wd _).1 _) (uses4096 hu hb _ (ins_mem h1))]
      exact .inl h2
    | step b i v h1 h2 h3 ih =>
      intro hb _
      have := ih hb (by omega)
      unfold U.thrL at this ⊢
      rw [drop_ins h1, List.foldr_cons, tb_backL (thr_Wd (joinI_ok h.wd _).1 _) (uses4096 hu hb _ (ins_mem h1))]
      exact .inr ⟨this, h2⟩
    | next b i v t h1 h2 h3 ih =>
      intro hb hi
      have ht := hu.next b (by omega) (by omega) t h2
      have := ih (by omega) (Nat.zero_le _)
      have hf := (h.fix t.toNat (by omega) (by simp)).2
      unfold U.thrL
      rw [List.drop_of_length_le h1, List.foldr_nil, (joinI_ok h.wd _).2.2 v]
      refine ⟨t, h2, ?_⟩
      rw [hf]
      exact this
  intro b v hb
  refine ⟨h.sound b v, fun hl => ?_⟩
  rw [(h.fix b hb (by simp)).2]
  exact key b 0 v hl hb (Nat.zero_le _)
theorem live_out {inn out : List (List Int)} (h : LInv bl inn out []) {b : Nat} (hb : b < bl.length) : Bit.Wd (out.getD b []) ∧ Bit.neatL (out.getD b []) = out.getD b [] ∧ ∀ v, Bit.tb (out.getD b []) v = true ↔ ∃ t ∈ U.nextAt bl b, LiveAt bl t.toNat 0 v := by
  obtain ⟨h1, h2, h3⟩ := joinI_ok h.wd (U.nextAt bl b)
  rw [(h.fix b hb (by simp)).1]
  refine ⟨h1, h2, fun v => ?_⟩
  rw [h3 v]
  constructor
  · rintro ⟨t, q1, q2⟩
    have ht := hu.next b (by omega) (by omega) t q1
    exact ⟨t, q1, (live_in hu h _ _ (by omega)).1 q2⟩
  · rintro ⟨t, q1, q2⟩
    have ht := hu.next b (by omega) (by omega) t q1
    exact ⟨t, q1, (live_in hu h _ _ (by omega)).2 q2⟩
end
end Go.Proofs.YtdnekkkpngnmkaaDoor.E
