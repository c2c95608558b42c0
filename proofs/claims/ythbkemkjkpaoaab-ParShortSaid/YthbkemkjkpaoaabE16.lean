/- Regions whose order is drawn. -/
import Derived.Test.YthbkemkjkpaoaabE15
set_option linter.unusedVariables false
set_option linter.unusedSimpArgs false
namespace Go.Proofs.Ythbkemkjkpaoaab.E
open Go
section
variable {P : Program} {o : Oper} {a : Act} {w w0 : World} {ρ ρ0 : Gh} {σ : List Row} {base : Nat} {hs : FH} {call : CallF}
theorem freshArr_w {own : List Nat} {s : Nat} {xs : List (List AV)} {out : Out} (h : freshArr base own s xs σ = some out) (hw : out.w = false) : out.sto = σ ∧ out.mv = [] := by
  unfold freshArr at h
  split at h
  · cases h; exact ⟨rfl, rfl⟩
  · split at h
    · cases h; cases hw
    · cases h
  · cases h
/-- Where no memory has changed, it is the same. -/
theorem evOp_w {own : List Nat} {ea : Operand → Option AV} {op : Op} {out : Out} (h : evOp P call base own ea σ op = some out) (hw : out.w = false) : out.sto = σ ∧ out.mv = [] := by
  by_cases ht : touchV ea op = false
  · have := (evOp_untouched ht h).1
    rw [this]
    exact ⟨rfl, rfl⟩
  have box : ∀ {cells : List AV}, freshBox base own cells σ = some out → out.sto = σ ∧ out.mv = [] := fun {cells} h => by
    unfold freshBox at h
    split at h
    · cases h; exact ⟨rfl, rfl⟩
    · split at h
      · cases h; cases hw
      · cases h
    · cases h
  have ret : ∀ {x : Option AV}, x.map (fun x => (⟨x, σ, [], false⟩ : Out)) = some out → out.sto = σ ∧ out.mv = [] := fun {x} h => by
    obtain ⟨_, _, rfl⟩ := Option.map_eq_some_iff.1 h
    exact ⟨rfl, rfl⟩
  have bind : ∀ {α : Type} {x : Option α} {f : α → Option Out}, x.bind f = some out → ∃ y, f y = some out := fun {α x f} h => by
    obtain ⟨y, _, h⟩ := Option.bind_eq_some_iff.1 h
    exact ⟨y, h⟩
  cases op with
  | alloc e => simp only [evOp] at h; obtain ⟨_, h⟩ := bind h; exact box h
  | box e x =>
    simp only [evOp] at h
    obtain ⟨_, h⟩ := bind h
    split at h
    · exact box h
    · cases h
  | buildSlice t len parts =>
    simp only [evOp] at h
    obtain ⟨ps, h⟩ := bind h
    unfold buildSliceA at h
    split at h
    · obtain ⟨q, h⟩ := bind h
      split at h
      · obtain ⟨xs, h⟩ := bind h
        obtain ⟨fz, h⟩ := bind h
        obtain ⟨o1, ho1, rfl⟩ := Option.map_eq_some_iff.1 h
        simp only [Bool.or_eq_false_iff, Bool.not_eq_false', List.isEmpty_iff] at hw
        obtain ⟨h1, h2⟩ := freshArr_w ho1 hw.1
        simp only [h1, h2, hw.2]
        exact ⟨by simp [giveUp], rfl⟩
      · cases h
    · cases h
  | load t x => simp only [evOp] at h; obtain ⟨_, h⟩ := bind h; obtain ⟨_, h⟩ := bind h; exact ret h
  | store t x y =>
    simp only [evOp] at h
    obtain ⟨u, h⟩ := bind h
    obtain ⟨v, h⟩ := bind h
    unfold storeA at h
    split at h
    · obtain ⟨s, h⟩ := bind h
      split at h
      · split at h
        · split at h
          · split at h
            · cases h; cases hw
            · cases h
          · obtain ⟨fz, h⟩ := bind h
            split at h
            · cases h
            · split at h
              · split at h
                · cases h; cases hw
                · cases h
              · cases h
          · cases h
        · cases h
      · cases h
    · cases h
  | makeSlice t l c =>
    simp only [evOp] at h
    obtain ⟨u, h⟩ := bind h
    obtain ⟨v, h⟩ := bind h
    unfold makeSliceA at h
    split at h
    · obtain ⟨q, h⟩ := bind h
      split at h
      · exact freshArr_w h hw
      · cases h
    · cases h
  | slice t x lo hi mx =>
    simp only [evOp] at h
    obtain ⟨u, h⟩ := bind h
    obtain ⟨l, h⟩ := bind h
    obtain ⟨g, h⟩ := bind h
    obtain ⟨m, h⟩ := bind h
    split at h
    · exact ret h
    · exact ret h
  | indexAddr t x i => simp only [evOp] at h; obtain ⟨_, h⟩ := bind h; obtain ⟨_, h⟩ := bind h; exact ret h
  | call c =>
    simp only [evOp] at h
    split at h
    · obtain ⟨args, h⟩ := bind h
      split at h
      · unfold builtinA at h
        split at h
        · split at h
          · split at h
            · split at h
              · obtain ⟨q, h⟩ := bind h
                obtain ⟨ys, h⟩ := bind h
                split at h
                · unfold appendA at h
                  split at h
                  · rename_i o ho
                    cases h
                    unfold atEnd at ho
                    split at ho
                    · split at ho
                      · split at ho
                        · cases ho; cases hw
                        · cases ho
                      · cases ho
                    · cases ho
                  unfold appendO at h
                  split at h
                  · split at h
                    · exact freshArr_w h hw
                    · cases h
                  · split at h
                    · split at h
                      · split at h
                        · cases h; cases hw
                        · split at h
                          · cases h; cases hw
                          · cases h
                      · cases h
                    · cases h
                  · cases h
                · cases h
              · cases h
            · cases h
          · cases h
        · split at h
          · obtain ⟨q, h⟩ := bind h
            obtain ⟨ys, h⟩ := bind h
            split at h
            · unfold copyA at h
              split at h
              · split at h
                · split at h
                  · cases h; cases hw
                  · cases h
                · cases h
              · cases h; exact ⟨rfl, rfl⟩
              · cases h
            · cases h
          · cases h
        · split at h
          · obtain ⟨q, h⟩ := bind h
            unfold clearA at h
            split at h
            · split at h
              · split at h
                · cases h; cases hw
                · cases h
              · cases h
            · cases h; exact ⟨rfl, rfl⟩
            · cases h
          · cases h
        · cases h
      · exact ret h
    · obtain ⟨f, h⟩ := bind h
      split at h
      · obtain ⟨args, h⟩ := bind h
        unfold callA at h
        split at h
        · unfold lendA at h
          obtain ⟨fz, h⟩ := bind h
          obtain ⟨q, h⟩ := bind h
          split at h
          · obtain ⟨_, _, rfl⟩ := Option.map_eq_some_iff.1 h
            exact ⟨rfl, rfl⟩
          · split at h
            · split at h
              · split at h
                · cases h; cases hw
                · cases h
              · cases h
            · cases h
          · cases h
        unfold callS at h
        simp only at h
        split at h
        · obtain ⟨q, h⟩ := bind h
          obtain ⟨_, _, rfl⟩ := Option.map_eq_some_iff.1 h
          exact ⟨rfl, rfl⟩
        · unfold callB at h
          simp only at h
          split at h
          · split at h
            · cases h
            · split at h
              · split at h
                · split at h
                  · cases h; cases hw
                  · obtain ⟨_, _, rfl⟩ := Option.map_eq_some_iff.1 h
                    cases hw
                · split at h
                  · cases h; cases hw
                  · cases h
              · cases h
          · cases h
      · cases h
    · cases h
  | makeMap t r =>
    cases r with
    | some r => simp [evOp] at h
    | none =>
      simp only [evOp] at h
      unfold makeMapA at h
      split at h
      · split at h
        · obtain ⟨_, _, rfl⟩ := Option.map_eq_some_iff.1 h; cases hw
        · cases h
      · cases h
  | lookup t m x ok => simp only [evOp] at h; obtain ⟨_, h⟩ := bind h; obtain ⟨_, h⟩ := bind h; exact ret h
  | mapUpdate t m x v =>
    simp only [evOp] at h
    obtain ⟨_, h⟩ := bind h
    obtain ⟨_, h⟩ := bind h
    obtain ⟨_, h⟩ := bind h
    unfold mapUpdateA at h
    obtain ⟨_, h⟩ := bind h
    obtain ⟨_, h⟩ := bind h
    split at h
    · cases h; cases hw
    · cases h
  | mapEntry t m x =>
    simp only [evOp] at h
    obtain ⟨_, h⟩ := bind h
    obtain ⟨_, h⟩ := bind h
    unfold mapEntryA at h
    obtain ⟨_, h⟩ := bind h
    split at h
    · cases h; cases hw
    · cases h
  | entryStore t m x v =>
    simp only [evOp] at h
    obtain ⟨_, h⟩ := bind h
    obtain ⟨_, h⟩ := bind h
    obtain ⟨_, h⟩ := bind h
    unfold entryStoreA at h
    split at h
    · split at h
      · obtain ⟨_, h⟩ := bind h
        split at h
        · cases h; cases hw
        · cases h
      · cases h
    · cases h
  | _ => first | (exact absurd rfl ht) | (simp [evOp] at h; done)

/-! #### The order's bits -/
theorem testBit_fold (X : Nat → Nat) (i : Nat) : ∀ (l : List Edge) (s : Nat), (l.foldl (fun s e => if Region.binds .any e then s ||| 2 ^ e.on ||| X e.on else s) s).testBit i = true ↔ s.testBit i = true ∨ ∃ e ∈ l, Region.binds .any e = true ∧ (e.on = i ∨ (X e.on).testBit i = true)
  | [], s => by simp
  | e :: l, s => by
    rw [List.foldl_cons, testBit_fold X i l]
    by_cases hb : Region.binds .any e = true
    · rw [if_pos hb]
      simp only [Nat.testBit_or, Bool.or_eq_true, Nat.testBit_two_pow, decide_eq_true_eq, List.mem_cons, exists_eq_or_imp, hb, true_and]
      constructor
      · rintro (((h | h) | h) | h)
        · exact .inl h
        · exact .inr (.inl (.inl h))
        · exact .inr (.inl (.inr h))
        · exact .inr (.inr h)
      · rintro (h | (h | h) | h)
        · exact .inl (.inl (.inl h))
        · exact .inl (.inl (.inr h))
        · exact .inl (.inr h)
        · exact .inr h
    · rw [if_neg hb]
      simp [hb]
theorem bitsL_spec : ∀ (l : List Oper) (acc : List Nat), (bitsL l acc).length = acc.length + l.length ∧ (∀ j, j < acc.length → (bitsL l acc)[j]? = acc[j]?) ∧
    ∀ (j : Nat) o, l[j]? = some o → (∀ e ∈ o.after.toList, e.on < acc.length + j) → (bitsL l acc)[acc.length + j]? = some (o.after.toList.foldl (fun s e => if Region.binds .any e then s ||| 2 ^ e.on ||| (bitsL l acc).getD e.on 0 else s) 0)
  | [], acc => ⟨by simp [bitsL], fun j _ => rfl, fun j o h => by simp at h⟩
  | o :: r, acc => by
    obtain ⟨h1, h2, h3⟩ := bitsL_spec r (acc ++ [o.after.toList.foldl (fun s e => if Region.binds .any e then s ||| 2 ^ e.on ||| acc.getD e.on 0 else s) 0])
    unfold bitsL
    rw [List.length_append, List.length_singleton] at h1 h2 h3
    refine ⟨by rw [h1]; simp; omega, fun j hj => by rw [h2 j (by omega), List.getElem?_append_left hj], fun j o' ho he => ?_⟩
    cases j with
    | zero =>
      simp at ho
      subst ho
      rw [Nat.add_zero, h2 acc.length (by omega), List.getElem?_append_right (Nat.le_refl _), Nat.sub_self]
      simp only [List.getElem?_cons_zero, Option.some.injEq]
      have hfold : ∀ (l : List Edge) (s : Nat), (∀ e ∈ l, e.on < acc.length) → l.foldl (fun s e => if Region.binds .any e then s ||| 2 ^ e.on ||| acc.getD e.on 0 else s) s = l.foldl (fun s e => if Region.binds .any e then s ||| 2 ^ e.on ||| (bitsL r (acc ++ [o.after.toList.foldl (fun s e => if Region.binds .any e then s ||| 2 ^ e.on ||| acc.getD e.on 0 else s) 0])).getD e.on 0 else s) s := by
        intro l
        induction l with
        | nil => intro s _; rfl
        | cons e l ih =>
          intro s hl
          rw [List.foldl_cons, List.foldl_cons]
          have he := hl e (by simp)
          have : (bitsL r (acc ++ [o.after.toList.foldl (fun s e => if Region.binds .any e then s ||| 2 ^ e.on ||| acc.getD e.on 0 else s) 0])).getD e.on 0 = acc.getD e.on 0 := by
            rw [List.getD_eq_getElem?_getD, h2 e.on (by omega), List.getElem?_append_left he, ← List.getD_eq_getElem?_getD]
          rw [this]
          exact ih _ (fun e' he' => hl e' (by simp [he']))
      exact hfold _ 0 (fun e he' => by have := he e he'; omega)
    | succ j =>
      have := h3 j o' (by simpa using ho) (fun e he' => by have := he e he'; omega)
      rw [show acc.length + (j + 1) = acc.length + 1 + j from by omega]
      exact this
/-- What is listed holds what it waits for. -/
def Down (ops : Array Oper) (b : Nat → Bool) : Prop := ∀ (j : Nat) o, ops.toList[j]? = some o → b j = true → ∀ e ∈ o.after.toList, Region.binds .any e = true → b e.on = true
theorem down_bits {ops : Array Oper} (hedge : ∀ (j : Nat) o, ops.toList[j]? = some o → ∀ e ∈ o.after.toList, e.on < j) {b : Nat → Bool} (hd : Down ops b) : ∀ (j : Nat) o, ops.toList[j]? = some o → (∀ e ∈ o.after.toList, Region.binds .any e = true → b e.on = true) → ∀ i, ((bitsL ops.toList []).getD j 0).testBit i = true → b i = true := by
  obtain ⟨_, _, h3⟩ := bitsL_spec ops.toList []
  intro j
  induction j using Nat.strongRecOn with
  | _ j ih =>
    intro o ho hdep i hi
    have h4 := h3 j o ho (fun e he => by have := hedge j o ho e he; simpa using this)
    simp only [List.length_nil, Nat.zero_add] at h4
    rw [List.getD_eq_getElem?_getD, h4, Option.getD_some] at hi
    replace hi := (testBit_fold (fun q => (bitsL ops.toList []).getD q 0) i _ 0).1 hi
    rcases hi with hi | ⟨e, he, hb, hi⟩
    · simp at hi
    · rcases hi with rfl | hi
      · exact hdep e he hb
      · have hlt := hedge j o ho e he
        have hjl : j < ops.toList.length := (List.getElem?_eq_some_iff.1 ho).1
        have ho' : ops.toList[e.on]? = some ops.toList[e.on] := List.getElem?_eq_getElem (by omega)
        exact ih e.on hlt _ ho' (fun e' he' hb' => hd e.on _ ho' (hdep e he hb) e' he' hb') i hi

/-! #### The operations that are listed, in the order of the text -/
/-- Slots, from those ahead: what is listed has been put. -/
def selE (MV : Nat → List Nat) (V : Nat → AV) (b : Nat → Bool) : List (Oper × Nat) → List AV → List AV
  | [], env => env
  | x :: r, env => selE MV V b r (if b x.2 = true then putA (killE (MV x.2) env) x.1.dst (V x.2) else env)
def selM (S : Nat → List Row) (W : Nat → Bool) (b : Nat → Bool) : List (Oper × Nat) → List Row → List Row
  | [], s => s
  | x :: r, s => selM S W b r (if (b x.2 && W x.2) = true then S (x.2 + 1) else s)
theorem putA_get {env : List AV} {d : Option Nat} {x : AV} {t : Nat} : (putA env d x)[t]? = if d = some t then (if t < env.length then some x else none) else env[t]? := by
  cases d with
  | none => simp [putA]
  | some d =>
    simp only [putA, List.getElem?_set, Option.some.injEq]
    by_cases h : d = t
    · subst h; rfl
    · rw [if_neg h, if_neg h]
theorem killE_len (ts : List Nat) (env : List AV) : (killE ts env).length = env.length := by
  unfold killE
  split
  · rfl
  · exact killL_len ts env
theorem killE_get (ts : List Nat) (env : List AV) (t : Nat) : (killE ts env)[t]? = (env[t]?).map (killV ts) := by
  unfold killE
  split
  · rename_i h
    obtain rfl : ts = [] := by simpa using h
    have : killV [] = id := funext killV_nil
    rw [this, Option.map_id]
    rfl
  · exact killL_get ts env t
theorem putA_len {env : List AV} {d : Option Nat} {x : AV} : (putA env d x).length = env.length := by cases d <;> simp [putA]
theorem selE_len {MV : Nat → List Nat} {V : Nat → AV} {b : Nat → Bool} : ∀ (l : List (Oper × Nat)) (env : List AV), (selE MV V b l env).length = env.length
  | [], env => rfl
  | x :: r, env => by
    unfold selE
    rw [selE_len r]
    split
    · rw [putA_len, killE_len]
    · rfl
/-- Two selections agree at a slot, if they part by nothing that fills it, or moves tokens of what it holds. -/
theorem selE_agree {MV : Nat → List Nat} {V : Nat → AV} {b b' : Nat → Bool} {t : Nat} {A : AV → Prop} (hk : ∀ mv y, A y → A (killV mv y)) : ∀ (l : List (Oper × Nat)) (env env' : List AV), env.length = env'.length → env[t]? = env'[t]? → (∀ y, env[t]? = some y → A y) → (∀ x ∈ l, x.1.dst = some t → A (V x.2)) →
    (∀ x ∈ l, b x.2 ≠ b' x.2 → x.1.dst ≠ some t ∧ ∀ y, A y → killV (MV x.2) y = y) → (selE MV V b l env)[t]? = (selE MV V b' l env')[t]?
  | [], env, env', _, h, _, _, _ => h
  | x :: r, env, env', hl, h, hA, hV, hd => by
    have one : ∀ e : List AV, e.length = env.length → e[t]? = env[t]? → (∀ y, A y → killV (MV x.2) y = y) → x.1.dst ≠ some t → (putA (killE (MV x.2) e) x.1.dst (V x.2))[t]? = e[t]? := fun e _ he h1 h2 => by
      rw [putA_get, if_neg h2, killE_get]
      cases hy : e[t]? with
      | none => rfl
      | some y => rw [Option.map_some, h1 y (hA y (by rw [← he, hy]))]
    have two : ∀ y, (putA (killE (MV x.2) env) x.1.dst (V x.2))[t]? = some y → A y := fun y hy => by
      rw [putA_get] at hy
      split at hy
      · rename_i hdst
        split at hy
        · cases hy; exact hV x (by simp) hdst
        · cases hy
      · rw [killE_get] at hy
        obtain ⟨z, hz, rfl⟩ := Option.map_eq_some_iff.1 hy
        exact hk _ _ (hA z hz)
    unfold selE
    refine selE_agree hk r _ _ ?_ ?_ ?_ (fun y hy => hV y (by simp [hy])) (fun y hy => hd y (by simp [hy]))
    · split <;> split <;> simp [putA_len, killE_len, hl]
    · by_cases hb : b x.2 = b' x.2
      · rw [hb]
        split
        · rw [putA_get, putA_get, killE_len, killE_len, killE_get, killE_get, h, hl]
        · exact h
      · obtain ⟨h2, h1⟩ := hd x (by simp) hb
        split
        · split
          · rw [one _ rfl rfl h1 h2, one _ hl.symm h.symm h1 h2]; exact h
          · rw [one _ rfl rfl h1 h2]; exact h
        · split
          · rw [one _ hl.symm h.symm h1 h2]; exact h
          · exact h
    · intro y hy
      split at hy
      · exact two y hy
      · exact hA y hy
/-- Two selections that part by nothing. -/
theorem selE_same {MV : Nat → List Nat} {V : Nat → AV} {b b' : Nat → Bool} : ∀ (l : List (Oper × Nat)) (env : List AV), (∀ x ∈ l, b x.2 = b' x.2) → selE MV V b l env = selE MV V b' l env
  | [], env, _ => rfl
  | x :: r, env, h => by unfold selE; rw [h x (by simp)]; exact selE_same r _ (fun y hy => h y (by simp [hy]))
mutual
theorem killV_toks (ts : List Nat) : ∀ x : AV, ∀ t ∈ toksV (killV ts x), t ∈ toksV x
  | .os u _ _, t, h => by
    simp only [killV] at h
    split at h
    · simp [toksV] at h
    · exact h
  | .pt u _ _, t, h => by
    simp only [killV] at h
    split at h
    · simp [toksV] at h
    · exact h
  | .mp u, t, h => by
    simp only [killV] at h
    split at h
    · simp [toksV] at h
    · exact h
  | .rp cells, t, h => by simp only [killV, toksV] at h ⊢; exact killL_toks ts cells t h
  | .clo f cells, t, h => by simp only [killV, toksV] at h ⊢; exact killL_toks ts cells t h
  | .agg cells, t, h => by simp only [killV, toksV] at h ⊢; exact killL_toks ts cells t h
  | .tup cells, t, h => by simp only [killV, toksV] at h ⊢; exact killL_toks ts cells t h
  | .v x, t, h => h
  | .nil, t, h => h
  | .sl xs, t, h => h
  | .dead, t, h => h
theorem killL_toks (ts : List Nat) : ∀ l : List AV, ∀ t ∈ toksL (killL ts l), t ∈ toksL l
  | [], t, h => h
  | x :: r, t, h => by
    simp only [killL, toksL, List.mem_append] at h ⊢
    rcases h with h | h
    · exact .inl (killV_toks ts x t h)
    · exact .inr (killL_toks ts r t h)
end
mutual
theorem killV_comm (p q : List Nat) : ∀ x : AV, killV p (killV q x) = killV q (killV p x)
  | .os t a b => by by_cases h1 : t ∈ p <;> by_cases h2 : t ∈ q <;> simp [killV, h1, h2]
  | .pt t a b => by by_cases h1 : t ∈ p <;> by_cases h2 : t ∈ q <;> simp [killV, h1, h2]
  | .mp t => by by_cases h1 : t ∈ p <;> by_cases h2 : t ∈ q <;> simp [killV, h1, h2]
  | .rp cells => by simp only [killV, killL_comm p q cells]
  | .clo f cells => by simp only [killV, killL_comm p q cells]
  | .agg cells => by simp only [killV, killL_comm p q cells]
  | .tup cells => by simp only [killV, killL_comm p q cells]
  | .v x => rfl
  | .nil => rfl
  | .sl xs => rfl
  | .dead => rfl
theorem killL_comm (p q : List Nat) : ∀ l : List AV, killL p (killL q l) = killL q (killL p l)
  | [] => rfl
  | x :: r => by simp only [killL, killV_comm p q x, killL_comm p q r]
end
theorem killE_eq (ts : List Nat) (env : List AV) : killE ts env = killL ts env := by
  unfold killE
  split
  · rename_i h
    obtain rfl : ts = [] := by simpa using h
    exact (killL_nil env).symm
  · rfl
theorem killE_comm (p q : List Nat) (env : List AV) : killE p (killE q env) = killE q (killE p env) := by
  simp only [killE_eq]; exact killL_comm p q env
theorem killL_set (ts : List Nat) : ∀ (env : List AV) (i : Nat) (x : AV), killL ts (env.set i x) = (killL ts env).set i (killV ts x)
  | [], _, _ => rfl
  | y :: r, 0, x => rfl
  | y :: r, i + 1, x => by simp only [List.set_cons_succ, killL, killL_set ts r i x]
theorem killE_put (ts : List Nat) (env : List AV) (d : Option Nat) (x : AV) : killE ts (putA env d x) = putA (killE ts env) d (killV ts x) := by
  simp only [killE_eq]
  cases d with
  | none => rfl
  | some d => exact killL_set ts env d x
theorem apart_kill {mv : List Nat} {x : AV} (h : apart mv x = true) : killV mv x = x := killV_not mv x (fun t ht => by
  have := List.all_eq_true.1 h t ht
  simpa using this)
theorem apart_killed {mv : List Nat} {x : AV} (ts : List Nat) (h : apart mv x = true) : apart mv (killV ts x) = true :=
  List.all_eq_true.2 (fun t ht => List.all_eq_true.1 h t (killV_toks ts x t ht))
theorem apart_none (x : AV) : apart [] x = true := by simp [apart]
theorem selM_agree {S : Nat → List Row} {W : Nat → Bool} {b b' : Nat → Bool} : ∀ (l : List (Oper × Nat)) (s : List Row), (∀ x ∈ l, b x.2 ≠ b' x.2 → W x.2 = false) → selM S W b l s = selM S W b' l s
  | [], s, _ => rfl
  | x :: r, s, hd => by
    unfold selM
    have : (if (b x.2 && W x.2) = true then S (x.2 + 1) else s) = if (b' x.2 && W x.2) = true then S (x.2 + 1) else s := by
      by_cases hb : b x.2 = b' x.2
      · rw [hb]
      · rw [hd x (by simp) hb, Bool.and_false, Bool.and_false]
    rw [this]
    exact selM_agree r _ (fun y hy => hd y (by simp [hy]))
theorem selE_none {MV : Nat → List Nat} {V : Nat → AV} {b : Nat → Bool} : ∀ (l : List (Oper × Nat)) (env : List AV), (∀ x ∈ l, b x.2 = false) → selE MV V b l env = env
  | [], env, _ => rfl
  | x :: r, env, h => by unfold selE; rw [h x (by simp), if_neg (by simp)]; exact selE_none r env (fun y hy => h y (by simp [hy]))
theorem selM_none {S : Nat → List Row} {W : Nat → Bool} {b : Nat → Bool} : ∀ (l : List (Oper × Nat)) (s : List Row), (∀ x ∈ l, b x.2 = true → W x.2 = false) → selM S W b l s = s
  | [], s, _ => rfl
  | x :: r, s, h => by
    unfold selM
    have : (b x.2 && W x.2) = false := by
      cases hb : b x.2 with
      | false => rfl
      | true => rw [h x (by simp) hb]; rfl
    rw [this, if_neg (by simp)]
    exact selM_none r s (fun y hy => h y (by simp [hy]))
theorem selE_append {MV : Nat → List Nat} {V : Nat → AV} {b : Nat → Bool} : ∀ (l l' : List (Oper × Nat)) (env : List AV), selE MV V b (l ++ l') env = selE MV V b l' (selE MV V b l env)
  | [], _, _ => rfl
  | x :: r, l', env => by simp only [List.cons_append, selE]; exact selE_append r l' _
theorem selM_append {S : Nat → List Row} {W : Nat → Bool} {b : Nat → Bool} : ∀ (l l' : List (Oper × Nat)) (s : List Row), selM S W b (l ++ l') s = selM S W b l' (selM S W b l s)
  | [], _, _ => rfl
  | x :: r, l', s => by simp only [List.cons_append, selM]; exact selM_append r l' _
end
end Go.Proofs.Ythbkemkjkpaoaab.E
