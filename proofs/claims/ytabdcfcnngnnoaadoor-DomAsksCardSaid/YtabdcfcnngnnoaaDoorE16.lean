/- Regions whose order is drawn. -/
import Derived.Test.YtabdcfcnngnnoaaDoorE15
set_option linter.unusedVariables false
set_option linter.unusedSimpArgs false
namespace Go.Proofs.YtabdcfcnngnnoaaDoor.E
open Go
section
variable {P : Program} {o : Oper} {a : Act} {w w0 : World} {ρ ρ0 : Gh} {σ : List Row} {base : Nat} {hs : FH} {call : CallF}
theorem freshArr_w {own : List Nat} {s : Nat} {xs : List (List AV)} {out : Out} (h : freshArr base own s xs σ = some out) (hw : out.w = false) : out.sto = σ ∧ out.mv = [] := by
  unfold freshArr at h
  split at h
  · cases h; exact ⟨rfl, rfl⟩
  · split at h
    · cases h; cases hw
    · cases h
  · cases h
/-- Where no memory has changed, it is the same. -/
theorem evOp_w {own : List Nat} {ea : Operand → Option AV} {op : Op} {out : Out} (h : evOp P call base own ea σ op = some out) (hw : out.w = false) : out.sto = σ ∧ out.mv = [] := by
  by_cases ht : touchV own ea op = false
  · have := (evOp_untouched ht h).1
    rw [this]
    exact ⟨rfl, rfl⟩
  have box : ∀ {cells : List AV}, freshBox base own cells σ = some out → out.sto = σ ∧ out.mv = [] := fun {cells} h => by
    unfold freshBox at h
    split at h
    · cases h; exact ⟨rfl, rfl⟩
    · split at h
      · cases h; cases hw
      · cases h
    · cases h
  have ret : ∀ {x : Option AV}, x.map (fun x => (⟨x, σ, [], false⟩ : Out)) = some out → out.sto = σ ∧ out.mv = [] := fun {x} h => by
    obtain ⟨_, _, rfl⟩ := Option.map_eq_some_iff.1 h
    exact ⟨rfl, rfl⟩
  have bind : ∀ {α : Type} {x : Option α} {f : α → Option Out}, x.bind f = some out → ∃ y, f y = some out := fun {α x f} h => by
    obtain ⟨y, _, h⟩ := Option.bind_eq_some_iff.1 h
    exact ⟨y, h⟩
  cases op with
  | alloc e => simp only [evOp] at h; obtain ⟨_, h⟩ := bind h; exact box h
  | box e x =>
    simp only [evOp] at h
    obtain ⟨_, h⟩ := bind h
    split at h
    · exact box h
    · cases h
  | buildSlice t len parts =>
    simp only [evOp] at h
    obtain ⟨ps, h⟩ := bind h
    unfold buildSliceA at h
    by_cases hcl : own = [CLIP]
    · rw [if_pos hcl] at h
      split at h
      case h_2 => cases h
      split at h
      case isFalse => cases h
      split at h
      case h_2 => cases h
      obtain ⟨q, hq, rfl⟩ := Option.map_eq_some_iff.1 h
      exact ⟨rfl, rfl⟩
    rw [if_neg hcl] at h
    split at h
    · obtain ⟨q, h⟩ := bind h
      split at h
      · obtain ⟨xs, h⟩ := bind h
        obtain ⟨fz, h⟩ := bind h
        obtain ⟨o1, ho1, rfl⟩ := Option.map_eq_some_iff.1 h
        simp only [Bool.or_eq_false_iff, Bool.not_eq_false', List.isEmpty_iff] at hw
        obtain ⟨h1, h2⟩ := freshArr_w ho1 hw.1
        simp only [h1, h2, hw.2]
        exact ⟨by simp [giveUp], rfl⟩
      · cases h
    · cases h
  | load t x => simp only [evOp] at h; obtain ⟨_, h⟩ := bind h; obtain ⟨_, h⟩ := bind h; exact ret h
  | store t x y =>
    simp only [evOp] at h
    obtain ⟨u, h⟩ := bind h
    obtain ⟨v, h⟩ := bind h
    unfold storeA at h
    split at h
    · obtain ⟨s, h⟩ := bind h
      split at h
      · split at h
        · split at h
          · split at h
            · cases h; cases hw
            · cases h
          · obtain ⟨fz, h⟩ := bind h
            split at h
            · cases h
            · split at h
              · split at h
                · cases h; cases hw
                · cases h
              · cases h
          · cases h
        · cases h
      · cases h
    · cases h
  | makeSlice t l c =>
    simp only [evOp] at h
    obtain ⟨u, h⟩ := bind h
    obtain ⟨v, h⟩ := bind h
    unfold makeSliceA at h
    split at h
    · obtain ⟨q, h⟩ := bind h
      split at h
      · exact freshArr_w h hw
      · cases h
    · cases h
  | slice t x lo hi mx =>
    simp only [evOp] at h
    obtain ⟨u, h⟩ := bind h
    obtain ⟨l, h⟩ := bind h
    obtain ⟨g, h⟩ := bind h
    obtain ⟨m, h⟩ := bind h
    split at h
    · exact ret h
    · exact ret h
  | indexAddr t x i => simp only [evOp] at h; obtain ⟨_, h⟩ := bind h; obtain ⟨_, h⟩ := bind h; exact ret h
  | call c =>
    simp only [evOp] at h
    split at h
    · obtain ⟨args, h⟩ := bind h
      split at h
      · unfold builtinA at h
        split at h
        · split at h
          · split at h
            · split at h
              · obtain ⟨q, h⟩ := bind h
                obtain ⟨ys, h⟩ := bind h
                split at h
                · unfold appendA at h
                  split at h
                  · unfold appendR at h
                    split at h
                    · split at h
                      · split at h
                        · cases h; cases hw
                        · cases h
                      · cases h
                    · cases h
                  unfold appendA0 at h
                  split at h
                  · rename_i o ho
                    cases h
                    unfold atEnd at ho
                    split at ho
                    · split at ho
                      · split at ho
                        · cases ho; cases hw
                        · cases ho
                      · cases ho
                    · cases ho
                  unfold appendO at h
                  split at h
                  · split at h
                    · exact freshArr_w h hw
                    · cases h
                  · split at h
                    · exact freshArr_w h hw
                    · cases h
                  · split at h
                    · split at h
                      · split at h
                        · cases h; cases hw
                        · split at h
                          · cases h; cases hw
                          · cases h
                      · cases h
                    · cases h
                  · cases h
                · cases h
              · unfold appendZ at h
                split at h
                · obtain ⟨q, h⟩ := bind h
                  split at h
                  · split at h
                    · cases h; cases hw
                    · cases h
                  · cases h
                · cases h
              · cases h
            · cases h
          · cases h
        · split at h
          · obtain ⟨q, h⟩ := bind h
            obtain ⟨ys, h⟩ := bind h
            split at h
            · unfold copyA at h
              split at h
              · split at h
                · split at h
                  · cases h; cases hw
                  · cases h
                · cases h
              · cases h; exact ⟨rfl, rfl⟩
              · cases h
            · cases h
          · cases h
        · split at h
          · obtain ⟨q, h⟩ := bind h
            unfold clearA at h
            split at h
            · split at h
              · split at h
                · cases h; cases hw
                · cases h
              · cases h
            · cases h; exact ⟨rfl, rfl⟩
            · cases h
          · cases h
        · cases h
      · exact ret h
    · obtain ⟨f, h⟩ := bind h
      split at h
      · obtain ⟨args, h⟩ := bind h
        unfold callA at h
        split at h
        · unfold lendA at h
          obtain ⟨fz, h⟩ := bind h
          obtain ⟨q, h⟩ := bind h
          split at h
          · obtain ⟨_, _, rfl⟩ := Option.map_eq_some_iff.1 h
            exact ⟨rfl, rfl⟩
          · split at h
            · split at h
              · split at h
                · cases h; cases hw
                · cases h
              · cases h
            · cases h; exact ⟨rfl, rfl⟩
            · cases h
          · cases h
        unfold callS at h
        simp only at h
        split at h
        · obtain ⟨q, h⟩ := bind h
          obtain ⟨_, _, rfl⟩ := Option.map_eq_some_iff.1 h
          exact ⟨rfl, rfl⟩
        · unfold callB at h
          simp only at h
          split at h
          · split at h
            · cases h
            · split at h
              · split at h
                · split at h
                  · cases h; cases hw
                  · obtain ⟨_, _, rfl⟩ := Option.map_eq_some_iff.1 h
                    cases hw
                · split at h
                  · cases h; cases hw
                  · cases h
              · cases h
          · cases h
      · cases h
    · cases h
  | makeMap t r =>
    cases r with
    | some r => simp [evOp] at h
    | none =>
      simp only [evOp] at h
      unfold makeMapA at h
      split at h
      · split at h
        · obtain ⟨_, _, rfl⟩ := Option.map_eq_some_iff.1 h; cases hw
        · cases h
      · cases h
  | lookup t m x ok => simp only [evOp] at h; obtain ⟨_, h⟩ := bind h; obtain ⟨_, h⟩ := bind h; exact ret h
  | mapUpdate t m x v =>
    simp only [evOp] at h
    obtain ⟨_, h⟩ := bind h
    obtain ⟨_, h⟩ := bind h
    obtain ⟨_, h⟩ := bind h
    unfold mapUpdateA at h
    obtain ⟨_, h⟩ := bind h
    obtain ⟨_, h⟩ := bind h
    split at h
    · cases h; cases hw
    · cases h
  | mapEntry t m x =>
    simp only [evOp] at h
    obtain ⟨_, h⟩ := bind h
    obtain ⟨_, h⟩ := bind h
    unfold mapEntryA at h
    obtain ⟨_, h⟩ := bind h
    split at h
    · cases h; cases hw
    · cases h
  | entryStore t m x v =>
    simp only [evOp] at h
    obtain ⟨_, h⟩ := bind h
    obtain ⟨_, h⟩ := bind h
    obtain ⟨_, h⟩ := bind h
    unfold entryStoreA at h
    split at h
    · split at h
      · obtain ⟨_, h⟩ := bind h
        split at h
        · cases h; cases hw
        · cases h
      · cases h
    · cases h
  | _ => first | (exact absurd rfl ht) | (simp [evOp] at h; done)

mutual
theorem killV_comm (p q : List Nat) : ∀ x : AV, killV p (killV q x) = killV q (killV p x)
  | .os t a b => by by_cases h1 : t ∈ p <;> by_cases h2 : t ∈ q <;> simp [killV, h1, h2]
  | .pt t a b => by by_cases h1 : t ∈ p <;> by_cases h2 : t ∈ q <;> simp [killV, h1, h2]
  | .mp t => by by_cases h1 : t ∈ p <;> by_cases h2 : t ∈ q <;> simp [killV, h1, h2]
  | .rp cells => by simp only [killV, killL_comm p q cells]
  | .clo f cells => by simp only [killV, killL_comm p q cells]
  | .agg cells => by simp only [killV, killL_comm p q cells]
  | .tup cells => by simp only [killV, killL_comm p q cells]
  | .v x => rfl
  | .nil => rfl
  | .sl xs => rfl
  | .cl xs => rfl
  | .dead => rfl
theorem killL_comm (p q : List Nat) : ∀ l : List AV, killL p (killL q l) = killL q (killL p l)
  | [] => rfl
  | x :: r => by simp only [killL, killV_comm p q x, killL_comm p q r]
end
/-- What a new row does to memory. -/
def newRow (t : Nat) (row : Row) (s : List Row) : List Row := (s.map (killR [t])).set t row
theorem newRow_len (t : Nat) (row : Row) (s : List Row) : (newRow t row s).length = s.length := by simp [newRow]
theorem giveUp_set (t : Nat) (row : Row) (s : List Row) : (giveUp [t] s).set t row = newRow t row s := by
  unfold newRow giveUp
  simp only [List.isEmpty_cons, Bool.false_eq_true, if_false, List.foldl_cons, List.foldl_nil, List.map_set, List.set_set]
mutual
theorem killV_none (ts : List Nat) : ∀ x : AV, toksV x = [] → killV ts x = x
  | .os t _ _, h => by simp [toksV] at h
  | .pt t _ _, h => by simp [toksV] at h
  | .mp t, h => by simp [toksV] at h
  | .rp cells, h => by rw [killV, killL_none ts cells (by simpa [toksV] using h)]
  | .clo f cells, h => by rw [killV, killL_none ts cells (by simpa [toksV] using h)]
  | .agg cells, h => by rw [killV, killL_none ts cells (by simpa [toksV] using h)]
  | .tup cells, h => by rw [killV, killL_none ts cells (by simpa [toksV] using h)]
  | .v x, h => rfl
  | .nil, h => rfl
  | .sl xs, h => rfl
  | .cl xs, h => rfl
  | .dead, h => rfl
theorem killL_none (ts : List Nat) : ∀ l : List AV, toksL l = [] → killL ts l = l
  | [], _ => rfl
  | x :: r, h => by
    simp only [toksL, List.append_eq_nil_iff] at h
    rw [killL, killV_none ts x h.1, killL_none ts r h.2]
end
theorem killR_none {row : Row} (ts : List Nat) (h : toksR row = []) : killR ts row = row := by
  cases row with
  | box cells => simp only [killR]; rw [killL_none ts cells h]
  | _ => rfl
theorem killR_comm (p q : List Nat) (row : Row) : killR p (killR q row) = killR q (killR p row) := by
  cases row with
  | box cells => simp only [killR, killL_comm p q cells]
  | _ => rfl
theorem newRow_comm {t u : Nat} {a b : Row} (h : t ≠ u) (ha : toksR a = []) (hb : toksR b = []) (s : List Row) : newRow t a (newRow u b s) = newRow u b (newRow t a s) := by
  unfold newRow
  rw [List.map_set, List.map_set, killR_none _ ha, killR_none _ hb, List.map_map, List.map_map, List.set_comm _ _ h]
  congr 2
  exact List.map_congr_left (fun r _ => killR_comm _ _ _)
theorem frOf_spec {own : List Nat} {ea : Operand → Option AV} {op : Op} {r : Out} {t : Nat} {row : Row} (h : evOp P call base own ea σ op = some r) (hf : frOf base own ea op r = some (t, row)) :
    r.mv = [t] ∧ r.w = true ∧ toksR row = [] ∧ t ∈ toksV r.val ∧ ∀ σ', σ'.length = σ.length → evOp P call base own ea σ' op = some ⟨r.val, newRow t row σ', [t], true⟩ := by
  unfold frOf at hf
  split at hf
  case h_2 => cases hf
  rename_i k
  split at hf
  case isFalse => cases hf
  rename_i hc
  obtain ⟨hk, hfree, hL, hmv, htv⟩ := hc
  split at hf
  case h_2 => cases hf
  rename_i rw0 hrow
  split at hf
  case isFalse => cases hf
  rename_i hemp
  cases hf
  have hemp' : toksR row = [] := by simpa using hemp
  have htv' : base + k ∈ toksV r.val := by simpa using htv
  -- what makes a row of its own
  have fin : ∀ {v : AV} {w : Row} {f : List Row → Option Out}, (∀ s, f s = if base + k < s.length then some ⟨v, (giveUp [base + k] s).set (base + k) w, [base + k], true⟩ else none) → f σ = some r →
      r.mv = [base + k] ∧ r.w = true ∧ toksR row = [] ∧ base + k ∈ toksV r.val ∧ ∀ σ', σ'.length = σ.length → f σ' = some ⟨r.val, newRow (base + k) row σ', [base + k], true⟩ := by
    intro v w f hf2 hr
    rw [hf2] at hr
    split at hr
    case isFalse => cases hr
    rename_i hlt
    cases hr
    have hw : w = row := by
      simp only [List.getElem?_set_self', giveUp_get] at hrow
      rw [List.getElem?_eq_getElem hlt] at hrow
      simpa using hrow
    subst hw
    refine ⟨rfl, rfl, hemp', htv', fun σ' hl => ?_⟩
    rw [hf2, if_pos (by omega), giveUp_set]
  cases op with
  | alloc e =>
    cases hz : zeroA P e with
    | none => simp [evOp, hz] at h
    | some cs =>
      by_cases ht : (toksL cs).contains (base + k) = false
      · refine fin (v := .pt (base + k) 0 0) (w := .box cs) (f := fun s => evOp P call base [k] ea s (.alloc e)) (fun s => ?_) h
        simp only [evOp, hz, Option.bind_some, freshBox]
        by_cases hlt : base + k < s.length
        · rw [if_pos ⟨hlt, ht⟩, if_pos hlt]
        · rw [if_neg (fun q => hlt q.1), if_neg hlt]
      · simp only [evOp, hz, Option.bind_some, freshBox] at h
        rw [if_neg (fun q => ht q.2)] at h
        cases h
  | makeSlice t l c =>
    cases hl : ea l with
    | none => simp [evOp, hl] at h
    | some l1 =>
    cases hc : ea c with
    | none => simp [evOp, hl, hc] at h
    | some c1 =>
    simp only [evOp, hl, hc, Option.bind_some] at h
    have h0 := h
    unfold makeSliceA at h
    split at h
    case h_2 => cases h
    rename_i e k1 n k2 m ht
    cases hq : elemA P e with
    | none => rw [hq] at h; cases h
    | some q =>
    rw [hq] at h
    simp only [Option.bind_some] at h
    split at h
    case isFalse => cases h
    rename_i hnm
    refine fin (v := .os (base + k) 0 (List.replicate n.toNat q.2).length) (w := .arr q.1 (List.replicate n.toNat q.2)) (f := fun s => evOp P call base [k] ea s (.makeSlice t l c)) (fun s => ?_) (by simp only [evOp, hl, hc, Option.bind_some]; exact h0)
    simp only [evOp, hl, hc, Option.bind_some, makeSliceA, ht, hq]
    rw [if_pos hnm]
    rfl
  | makeMap t rv =>
    cases rv with
    | some rv => simp [freshKind] at hk
    | none =>
      cases hq : mapTy P t with
      | none =>
        simp only [evOp, makeMapA, hq] at h
        split at h <;> cases h
      | some q =>
        refine fin (v := .mp (base + k)) (w := .map q.1 []) (f := fun s => evOp P call base [k] ea s (.makeMap t none)) (fun s => ?_) h
        simp only [evOp, makeMapA, hq, Option.map_some]
  | call c =>
    cases hcal : c.callee with
    | value f =>
      simp only [argsFree, hcal] at hfree
      split at hfree
      case h_2 => cases hfree
      rename_i g caps hef
      split at hfree
      case h_2 => cases hfree
      rename_i args hargs
      have htok : toksL (weakL (args ++ caps)) = [] := by simpa using hfree
      cases hcall : call g (nameL (idxOf []) (weakL (args ++ caps))) [] with
      | none =>
        exfalso
        simp only [evOp, hcal, hef, hargs, Option.bind_some, callA] at h
        rw [if_neg (by simp; exact Nat.ne_of_lt hL)] at h
        simp only [callS, weakO_one hL, ownO_one hL, htok] at h
        rw [if_neg (by simp)] at h
        unfold callB at h
        have hrc : reach σ (2 * σ.length + 2 * (weakL (args ++ caps)).length + 4) [] [] = [] := rfl
        rw [hrc] at h
        simp only [List.map_nil, hcall] at h
        split at h <;> cases h
      | some q =>
        obtain ⟨rv, s1, mv1⟩ := q
        have hform : ∀ s : List Row, evOp P call base [k] ea s (.call c) = if closedA [] (weakL (args ++ caps)) s = true then (if 0 ≤ s1.length ∧ (toksV rv).all (fun t => decide (t < s1.length)) = true ∧ s1.all (fun row => (toksR row).all fun t => decide (t < s1.length)) = true then (if ([] ++ [base + k] : List Nat).length = s1.length ∧ ([] ++ [base + k] : List Nat).Nodup ∧ [base + k].all (fun t => decide (t < s.length)) = true then some ⟨nameV (getT ([] ++ [base + k])) rv, putBack ([] ++ [base + k]) (s1.map (nameR (getT ([] ++ [base + k])))) (s.map (killR (mv1.map (getT []) ++ [base + k]))), mv1.map (getT []) ++ [base + k], true⟩ else none) else none) else none := by
          intro s
          simp only [evOp, hcal, hef, hargs, Option.bind_some, callA]
          rw [if_neg (by simp; exact Nat.ne_of_lt hL)]
          simp only [callS, weakO_one hL, ownO_one hL, htok]
          rw [if_neg (by simp)]
          unfold callB
          have hrc : reach s (2 * s.length + 2 * (weakL (args ++ caps)).length + 4) [] [] = [] := rfl
          rw [hrc]
          simp only [List.map_nil, hcall, List.length_nil, List.map_cons]
        have hcl : ∀ s : List Row, closedA [] (weakL (args ++ caps)) s = true := fun s => by
          unfold closedA; rw [htok]; simp
        rw [hform, if_pos (hcl σ)] at h
        split at h
        case isFalse => cases h
        rename_i hc1
        split at h
        case isFalse => cases h
        rename_i hc2
        cases h
        have hmv1 : mv1.map (getT []) = [] := by
          have : mv1.map (getT []) ++ [base + k] = [base + k] := hmv
          simpa using this
        obtain ⟨w, hw⟩ : ∃ w, s1 = [w] := by
          have : s1.length = 1 := hc2.1.symm
          match s1, this with
          | [w], _ => exact ⟨w, rfl⟩
        subst hw
        have hlt : base + k < σ.length := by simpa using hc2.2.2
        have hrow2 : nameR (getT [base + k]) w = row := by
          simp only [hmv1, List.nil_append, List.map_cons, List.map_nil, putBack, List.getElem?_set_self', List.getElem?_map] at hrow
          rw [List.getElem?_eq_getElem hlt] at hrow
          simpa using hrow
        refine ⟨hmv, rfl, hemp', htv', fun σ' hl => ?_⟩
        rw [hform, if_pos (hcl σ'), if_pos hc1, if_pos ⟨hc2.1, hc2.2.1, by simpa using (by omega : base + k < σ'.length)⟩]
        simp only [hmv1, List.nil_append, List.map_cons, List.map_nil, putBack, hrow2]
        rfl
    | _ => simp [freshKind, hcal] at hk
  | _ => simp [freshKind] at hk

/-! #### The order's bits -/
theorem testBit_fold (X : Nat → Nat) (i : Nat) : ∀ (l : List Edge) (s : Nat), (l.foldl (fun s e => if Region.binds .any e then s ||| 2 ^ e.on ||| X e.on else s) s).testBit i = true ↔ s.testBit i = true ∨ ∃ e ∈ l, Region.binds .any e = true ∧ (e.on = i ∨ (X e.on).testBit i = true)
  | [], s => by simp
  | e :: l, s => by
    rw [List.foldl_cons, testBit_fold X i l]
    by_cases hb : Region.binds .any e = true
    · rw [if_pos hb]
      simp only [Nat.testBit_or, Bool.or_eq_true, Nat.testBit_two_pow, decide_eq_true_eq, List.mem_cons, exists_eq_or_imp, hb, true_and]
      constructor
      · rintro (((h | h) | h) | h)
        · exact .inl h
        · exact .inr (.inl (.inl h))
        · exact .inr (.inl (.inr h))
        · exact .inr (.inr h)
      · rintro (h | (h | h) | h)
        · exact .inl (.inl (.inl h))
        · exact .inl (.inl (.inr h))
        · exact .inl (.inr h)
        · exact .inr h
    · rw [if_neg hb]
      simp [hb]
theorem bitsL_spec : ∀ (l : List Oper) (acc : List Nat), (bitsL l acc).length = acc.length + l.length ∧ (∀ j, j < acc.length → (bitsL l acc)[j]? = acc[j]?) ∧
    ∀ (j : Nat) o, l[j]? = some o → (∀ e ∈ o.after.toList, Region.binds .any e = true → e.on < acc.length + j) → (bitsL l acc)[acc.length + j]? = some (o.after.toList.foldl (fun s e => if Region.binds .any e then s ||| 2 ^ e.on ||| (bitsL l acc).getD e.on 0 else s) 0)
  | [], acc => ⟨by simp [bitsL], fun j _ => rfl, fun j o h => by simp at h⟩
  | o :: r, acc => by
    obtain ⟨h1, h2, h3⟩ := bitsL_spec r (acc ++ [o.after.toList.foldl (fun s e => if Region.binds .any e then s ||| 2 ^ e.on ||| acc.getD e.on 0 else s) 0])
    unfold bitsL
    rw [List.length_append, List.length_singleton] at h1 h2 h3
    refine ⟨by rw [h1]; simp; omega, fun j hj => by rw [h2 j (by omega), List.getElem?_append_left hj], fun j o' ho he => ?_⟩
    cases j with
    | zero =>
      simp at ho
      subst ho
      rw [Nat.add_zero, h2 acc.length (by omega), List.getElem?_append_right (Nat.le_refl _), Nat.sub_self]
      simp only [List.getElem?_cons_zero, Option.some.injEq]
      have hfold : ∀ (l : List Edge) (s : Nat), (∀ e ∈ l, Region.binds .any e = true → e.on < acc.length) → l.foldl (fun s e => if Region.binds .any e then s ||| 2 ^ e.on ||| acc.getD e.on 0 else s) s = l.foldl (fun s e => if Region.binds .any e then s ||| 2 ^ e.on ||| (bitsL r (acc ++ [o.after.toList.foldl (fun s e => if Region.binds .any e then s ||| 2 ^ e.on ||| acc.getD e.on 0 else s) 0])).getD e.on 0 else s) s := by
        intro l
        induction l with
        | nil => intro s _; rfl
        | cons e l ih =>
          intro s hl
          rw [List.foldl_cons, List.foldl_cons]
          by_cases hb : Region.binds .any e = true
          case neg => rw [if_neg hb, if_neg hb]; exact ih _ (fun e' he' => hl e' (by simp [he']))
          have he := hl e (by simp) hb
          have : (bitsL r (acc ++ [o.after.toList.foldl (fun s e => if Region.binds .any e then s ||| 2 ^ e.on ||| acc.getD e.on 0 else s) 0])).getD e.on 0 = acc.getD e.on 0 := by
            rw [List.getD_eq_getElem?_getD, h2 e.on (by omega), List.getElem?_append_left he, ← List.getD_eq_getElem?_getD]
          rw [this]
          exact ih _ (fun e' he' => hl e' (by simp [he']))
      exact hfold _ 0 (fun e he' hb => by have := he e he' hb; omega)
    | succ j =>
      have := h3 j o' (by simpa using ho) (fun e he' hb => by have := he e he' hb; omega)
      rw [show acc.length + (j + 1) = acc.length + 1 + j from by omega]
      exact this
/-- What is listed holds what it waits for. -/
def Down (ops : Array Oper) (b : Nat → Bool) : Prop := ∀ (j : Nat) o, ops.toList[j]? = some o → b j = true → ∀ e ∈ o.after.toList, Region.binds .any e = true → b e.on = true
theorem down_bits {ops : Array Oper} (hedge : ∀ (j : Nat) o, ops.toList[j]? = some o → ∀ e ∈ o.after.toList, Region.binds .any e = true → e.on < j) {b : Nat → Bool} (hd : Down ops b) : ∀ (j : Nat) o, ops.toList[j]? = some o → (∀ e ∈ o.after.toList, Region.binds .any e = true → b e.on = true) → ∀ i, ((bitsL ops.toList []).getD j 0).testBit i = true → b i = true := by
  obtain ⟨_, _, h3⟩ := bitsL_spec ops.toList []
  intro j
  induction j using Nat.strongRecOn with
  | _ j ih =>
    intro o ho hdep i hi
    have h4 := h3 j o ho (fun e he hb => by have := hedge j o ho e he hb; simpa using this)
    simp only [List.length_nil, Nat.zero_add] at h4
    rw [List.getD_eq_getElem?_getD, h4, Option.getD_some] at hi
    replace hi := (testBit_fold (fun q => (bitsL ops.toList []).getD q 0) i _ 0).1 hi
    rcases hi with hi | ⟨e, he, hb, hi⟩
    · simp at hi
    · rcases hi with rfl | hi
      · exact hdep e he hb
      · have hlt := hedge j o ho e he hb
        have hjl : j < ops.toList.length := (List.getElem?_eq_some_iff.1 ho).1
        have ho' : ops.toList[e.on]? = some ops.toList[e.on] := List.getElem?_eq_getElem (by omega)
        exact ih e.on hlt _ ho' (fun e' he' hb' => hd e.on _ ho' (hdep e he hb) e' he' hb') i hi

/-! #### The operations that are listed, in the order of the text -/
/-- Slots, from those ahead: what is listed has been put. -/
def selE (MV : Nat → List Nat) (V : Nat → AV) (b : Nat → Bool) : List (Oper × Nat) → List AV → List AV
  | [], env => env
  | x :: r, env => selE MV V b r (if b x.2 = true then putA (killE (MV x.2) env) x.1.dst (V x.2) else env)
def selM (Up : Nat → List Row → List Row) (W : Nat → Bool) (b : Nat → Bool) : List (Oper × Nat) → List Row → List Row
  | [], s => s
  | x :: r, s => selM Up W b r (if (b x.2 && W x.2) = true then Up x.2 s else s)
theorem putA_get {env : List AV} {d : Option Nat} {x : AV} {t : Nat} : (putA env d x)[t]? = if d = some t then (if t < env.length then some x else none) else env[t]? := by
  cases d with
  | none => simp [putA]
  | some d =>
    simp only [putA, List.getElem?_set, Option.some.injEq]
    by_cases h : d = t
    · subst h; rfl
    · rw [if_neg h, if_neg h]
theorem killE_len (ts : List Nat) (env : List AV) : (killE ts env).length = env.length := by
  unfold killE
  split
  · rfl
  · exact killL_len ts env
theorem killE_get (ts : List Nat) (env : List AV) (t : Nat) : (killE ts env)[t]? = (env[t]?).map (killV ts) := by
  unfold killE
  split
  · rename_i h
    obtain rfl : ts = [] := by simpa using h
    have : killV [] = id := funext killV_nil
    rw [this, Option.map_id]
    rfl
  · exact killL_get ts env t
theorem putA_len {env : List AV} {d : Option Nat} {x : AV} : (putA env d x).length = env.length := by cases d <;> simp [putA]
theorem selE_len {MV : Nat → List Nat} {V : Nat → AV} {b : Nat → Bool} : ∀ (l : List (Oper × Nat)) (env : List AV), (selE MV V b l env).length = env.length
  | [], env => rfl
  | x :: r, env => by
    unfold selE
    rw [selE_len r]
    split
    · rw [putA_len, killE_len]
    · rfl
/-- Two selections agree at a slot, if they part by nothing that fills it, or moves tokens of what it holds. -/
theorem selE_agree {MV : Nat → List Nat} {V : Nat → AV} {b b' : Nat → Bool} {t : Nat} {A : AV → Prop} (hk : ∀ mv y, A y → A (killV mv y)) : ∀ (l : List (Oper × Nat)) (env env' : List AV), env.length = env'.length → env[t]? = env'[t]? → (∀ y, env[t]? = some y → A y) → (∀ x ∈ l, x.1.dst = some t → A (V x.2)) →
    (∀ x ∈ l, b x.2 ≠ b' x.2 → x.1.dst ≠ some t ∧ ∀ y, A y → killV (MV x.2) y = y) → (selE MV V b l env)[t]? = (selE MV V b' l env')[t]?
  | [], env, env', _, h, _, _, _ => h
  | x :: r, env, env', hl, h, hA, hV, hd => by
    have one : ∀ e : List AV, e.length = env.length → e[t]? = env[t]? → (∀ y, A y → killV (MV x.2) y = y) → x.1.dst ≠ some t → (putA (killE (MV x.2) e) x.1.dst (V x.2))[t]? = e[t]? := fun e _ he h1 h2 => by
      rw [putA_get, if_neg h2, killE_get]
      cases hy : e[t]? with
      | none => rfl
      | some y => rw [Option.map_some, h1 y (hA y (by rw [← he, hy]))]
    have two : ∀ y, (putA (killE (MV x.2) env) x.1.dst (V x.2))[t]? = some y → A y := fun y hy => by
      rw [putA_get] at hy
      split at hy
      · rename_i hdst
        split at hy
        · cases hy; exact hV x (by simp) hdst
        · cases hy
      · rw [killE_get] at hy
        obtain ⟨z, hz, rfl⟩ := Option.map_eq_some_iff.1 hy
        exact hk _ _ (hA z hz)
    unfold selE
    refine selE_agree hk r _ _ ?_ ?_ ?_ (fun y hy => hV y (by simp [hy])) (fun y hy => hd y (by simp [hy]))
    · split <;> split <;> simp [putA_len, killE_len, hl]
    · by_cases hb : b x.2 = b' x.2
      · rw [hb]
        split
        · rw [putA_get, putA_get, killE_len, killE_len, killE_get, killE_get, h, hl]
        · exact h
      · obtain ⟨h2, h1⟩ := hd x (by simp) hb
        split
        · split
          · rw [one _ rfl rfl h1 h2, one _ hl.symm h.symm h1 h2]; exact h
          · rw [one _ rfl rfl h1 h2]; exact h
        · split
          · rw [one _ hl.symm h.symm h1 h2]; exact h
          · exact h
    · intro y hy
      split at hy
      · exact two y hy
      · exact hA y hy
/-- Two selections that part by nothing. -/
theorem selE_same {MV : Nat → List Nat} {V : Nat → AV} {b b' : Nat → Bool} : ∀ (l : List (Oper × Nat)) (env : List AV), (∀ x ∈ l, b x.2 = b' x.2) → selE MV V b l env = selE MV V b' l env
  | [], env, _ => rfl
  | x :: r, env, h => by unfold selE; rw [h x (by simp)]; exact selE_same r _ (fun y hy => h y (by simp [hy]))
mutual
theorem killV_toks (ts : List Nat) : ∀ x : AV, ∀ t ∈ toksV (killV ts x), t ∈ toksV x
  | .os u _ _, t, h => by
    simp only [killV] at h
    split at h
    · simp [toksV] at h
    · exact h
  | .pt u _ _, t, h => by
    simp only [killV] at h
    split at h
    · simp [toksV] at h
    · exact h
  | .mp u, t, h => by
    simp only [killV] at h
    split at h
    · simp [toksV] at h
    · exact h
  | .rp cells, t, h => by simp only [killV, toksV] at h ⊢; exact killL_toks ts cells t h
  | .clo f cells, t, h => by simp only [killV, toksV] at h ⊢; exact killL_toks ts cells t h
  | .agg cells, t, h => by simp only [killV, toksV] at h ⊢; exact killL_toks ts cells t h
  | .tup cells, t, h => by simp only [killV, toksV] at h ⊢; exact killL_toks ts cells t h
  | .v x, t, h => h
  | .nil, t, h => h
  | .sl xs, t, h => h
  | .cl xs, t, h => h
  | .dead, t, h => h
theorem killL_toks (ts : List Nat) : ∀ l : List AV, ∀ t ∈ toksL (killL ts l), t ∈ toksL l
  | [], t, h => h
  | x :: r, t, h => by
    simp only [killL, toksL, List.mem_append] at h ⊢
    rcases h with h | h
    · exact .inl (killV_toks ts x t h)
    · exact .inr (killL_toks ts r t h)
end
theorem killE_eq (ts : List Nat) (env : List AV) : killE ts env = killL ts env := by
  unfold killE
  split
  · rename_i h
    obtain rfl : ts = [] := by simpa using h
    exact (killL_nil env).symm
  · rfl
theorem killE_comm (p q : List Nat) (env : List AV) : killE p (killE q env) = killE q (killE p env) := by
  simp only [killE_eq]; exact killL_comm p q env
theorem killL_set (ts : List Nat) : ∀ (env : List AV) (i : Nat) (x : AV), killL ts (env.set i x) = (killL ts env).set i (killV ts x)
  | [], _, _ => rfl
  | y :: r, 0, x => rfl
  | y :: r, i + 1, x => by simp only [List.set_cons_succ, killL, killL_set ts r i x]
theorem killE_put (ts : List Nat) (env : List AV) (d : Option Nat) (x : AV) : killE ts (putA env d x) = putA (killE ts env) d (killV ts x) := by
  simp only [killE_eq]
  cases d with
  | none => rfl
  | some d => exact killL_set ts env d x
theorem apart_kill {mv : List Nat} {x : AV} (h : apart mv x = true) : killV mv x = x := killV_not mv x (fun t ht => by
  have := List.all_eq_true.1 h t ht
  simpa using this)
theorem apart_killed {mv : List Nat} {x : AV} (ts : List Nat) (h : apart mv x = true) : apart mv (killV ts x) = true :=
  List.all_eq_true.2 (fun t ht => List.all_eq_true.1 h t (killV_toks ts x t ht))
theorem apart_none (x : AV) : apart [] x = true := by simp [apart]
theorem selM_agree {S : Nat → List Row → List Row} {W : Nat → Bool} {b b' : Nat → Bool} : ∀ (l : List (Oper × Nat)) (s : List Row), (∀ x ∈ l, b x.2 ≠ b' x.2 → W x.2 = false) → selM S W b l s = selM S W b' l s
  | [], s, _ => rfl
  | x :: r, s, hd => by
    unfold selM
    have : (if (b x.2 && W x.2) = true then S x.2 s else s) = if (b' x.2 && W x.2) = true then S x.2 s else s := by
      by_cases hb : b x.2 = b' x.2
      · rw [hb]
      · rw [hd x (by simp) hb, Bool.and_false, Bool.and_false]
    rw [this]
    exact selM_agree r _ (fun y hy => hd y (by simp [hy]))
theorem selE_none {MV : Nat → List Nat} {V : Nat → AV} {b : Nat → Bool} : ∀ (l : List (Oper × Nat)) (env : List AV), (∀ x ∈ l, b x.2 = false) → selE MV V b l env = env
  | [], env, _ => rfl
  | x :: r, env, h => by unfold selE; rw [h x (by simp), if_neg (by simp)]; exact selE_none r env (fun y hy => h y (by simp [hy]))
theorem selM_swap {Up : Nat → List Row → List Row} {W : Nat → Bool} {b : Nat → Bool} {f : List Row → List Row} : ∀ (l : List (Oper × Nat)) (s : List Row), (∀ x ∈ l, b x.2 = true → W x.2 = true → ∀ s, f (Up x.2 s) = Up x.2 (f s)) → f (selM Up W b l s) = selM Up W b l (f s)
  | [], s, _ => rfl
  | x :: r, s, h => by
    unfold selM
    rw [selM_swap r _ (fun y hy => h y (by simp [hy]))]
    split
    · rename_i hc
      rw [Bool.and_eq_true] at hc
      rw [h x (by simp) hc.1 hc.2]
    · rfl
theorem selM_len {Up : Nat → List Row → List Row} {W : Nat → Bool} {b : Nat → Bool} {n : Nat} : ∀ (l : List (Oper × Nat)) (s : List Row), s.length = n → (∀ x ∈ l, W x.2 = true → ∀ s : List Row, s.length = n → (Up x.2 s).length = n) → (selM Up W b l s).length = n
  | [], s, h, _ => h
  | x :: r, s, h, hu => by
    unfold selM
    refine selM_len r _ ?_ (fun y hy => hu y (by simp [hy]))
    split
    · rename_i hc
      rw [Bool.and_eq_true] at hc
      exact hu x (by simp) hc.2 s h
    · exact h
/-- The same shapes. -/
def shapeR : Row → Option (Nat × Nat)
  | .arr sz xs => some (sz, xs.length)
  | _ => none
def Sh (σ σ' : List Row) : Prop := ∀ k : Nat, (σ[k]?).bind shapeR = (σ'[k]?).bind shapeR
theorem Sh.refl (σ : List Row) : Sh σ σ := fun _ => rfl
theorem Sh.symm {σ σ' : List Row} (h : Sh σ σ') : Sh σ' σ := fun k => (h k).symm
theorem Sh.trans {σ σ1 σ2 : List Row} (h : Sh σ σ1) (g : Sh σ1 σ2) : Sh σ σ2 := fun k => (h k).trans (g k)
theorem shape_kill (ts : List Nat) (r : Row) : shapeR (killR ts r) = shapeR r := by cases r <;> rfl
theorem Sh.new {σ σ' : List Row} (h : Sh σ σ') (hl : σ.length = σ'.length) (t : Nat) (row : Row) : Sh (newRow t row σ) (newRow t row σ') := fun k => by
  unfold newRow
  rw [List.getElem?_set, List.getElem?_set, List.length_map, List.length_map, hl]
  split
  · rfl
  · rw [List.getElem?_map, List.getElem?_map]
    have := h k
    cases h1 : σ[k]? <;> cases h2 : σ'[k]? <;> rw [h1, h2] at this <;> simp [shape_kill] at this ⊢ <;> exact this
theorem Sh.set {σ : List Row} {k : Nat} {r r' : Row} (h : σ[k]? = some r) (hs : shapeR r = shapeR r') : Sh σ (σ.set k r') := fun j => by
  rw [List.getElem?_set]
  by_cases e : k = j
  · subst e
    have hlt := (List.getElem?_eq_some_iff.1 h).1
    rw [if_pos rfl, if_pos hlt, h]
    simp [hs]
  · rw [if_neg e]
theorem indexAddrA_sh {t : TypeId} {x i : AV} {σ σ' : List Row} (h : Sh σ σ') : indexAddrA P σ t x i = indexAddrA P σ' t x i := by
  unfold indexAddrA
  split
  · rename_i e k n hu
    congr 1
    funext s
    split
    · rfl
    · rename_i k off len
      have hk := h k
      cases h1 : σ[k]? with
      | none =>
        rw [h1] at hk
        cases h2 : σ'[k]? with
        | none => rfl
        | some r' => rw [h2] at hk; cases r' <;> first | rfl | (simp [shapeR] at hk)
      | some r =>
        rw [h1] at hk
        cases h2 : σ'[k]? with
        | none => rw [h2] at hk; cases r <;> first | rfl | (simp [shapeR] at hk)
        | some r' =>
          rw [h2] at hk
          cases r with
          | arr sz xs =>
            cases r' with
            | arr sz' xs' =>
              simp only [Option.bind_some, shapeR, Option.some.injEq, Prod.mk.injEq] at hk
              obtain ⟨rfl, hl⟩ := hk
              simp only
              split
              · cases h3 : xs[off + n.toNat]? with
                | none => rw [List.getElem?_eq_none (by have := List.getElem?_eq_none_iff.1 h3; omega)]
                | some a =>
                  have := (List.getElem?_eq_some_iff.1 h3).1
                  rw [List.getElem?_eq_getElem (show off + n.toNat < xs'.length by omega)]
                  rfl
              · rfl
            | _ => simp [shapeR] at hk
          | _ =>
            cases r' with
            | arr sz' xs' => simp [shapeR] at hk
            | _ => rfl
    · rfl
  · rfl
  · rfl
theorem storeA_sh {t : TypeId} {p x : AV} {out : Out} (h : storeA P t σ p x = some out) (hm : out.mv = []) : Sh σ out.sto := by
  unfold storeA at h
  split at h
  case isFalse => cases h
  obtain ⟨s, hs, h⟩ := Option.bind_eq_some_iff.1 h
  split at h
  case isFalse => cases h
  split at h
  case h_2 => cases h
  rename_i k i j
  split at h
  · rename_i row hr
    split at h
    · cases h; exact Sh.set hr rfl
    · cases h
  · rename_i sz xs hr
    obtain ⟨fz, hfz, h⟩ := Option.bind_eq_some_iff.1 h
    split at h
    · cases h
    · split at h
      · split at h
        · cases h
          have : fz.2 = [] := hm
          simp only [this, giveUp, List.isEmpty_nil, if_true]
          exact Sh.set hr (by simp [shapeR])
        · cases h
      · cases h
  · cases h
/-- The same shape of one row. -/
def ShAt (k : Nat) (σ σ' : List Row) : Prop := (σ[k]?).bind shapeR = (σ'[k]?).bind shapeR
theorem shAt_new {k t : Nat} {row : Row} {σ : List Row} (h : k ≠ t) : ShAt k σ (newRow t row σ) := by
  unfold ShAt newRow
  rw [List.getElem?_set, if_neg (fun e => h e.symm), List.getElem?_map]
  cases σ[k]? <;> simp [shape_kill]
theorem shAt_new2 {k t : Nat} {row : Row} {σ σ' : List Row} (h : ShAt k σ σ') (hl : σ.length = σ'.length) : ShAt k (newRow t row σ) (newRow t row σ') := by
  unfold ShAt newRow at *
  rw [List.getElem?_set, List.getElem?_set, List.length_map, List.length_map, hl]
  split
  · rfl
  · rw [List.getElem?_map, List.getElem?_map]
    cases h1 : σ[k]? <;> cases h2 : σ'[k]? <;> rw [h1, h2] at h <;> simp [shape_kill] at h ⊢ <;> exact h
theorem indexAddrA_at {t : TypeId} {k off len : Nat} {i : AV} {σ σ' : List Row} (h : ShAt k σ σ') : indexAddrA P σ t (.os k off len) i = indexAddrA P σ' t (.os k off len) i := by
  have key : ∀ (τ : List Row), indexAddrA P τ t (.os k off len) i = match P.underlying t, i with
      | some (.slice e), .v (.int _ n) => (esz P e).bind fun s => match (τ[k]?).bind shapeR with
        | some (sz, m) => if 0 ≤ n ∧ n < len ∧ sz = s then (if off + n.toNat < m then some (.pt k (off + n.toNat) 0) else none) else none
        | none => none
      | some (.array m e), .v (.int _ n) => (esz P e).bind fun s => none
      | _, _ => none := by
    intro τ
    unfold indexAddrA
    cases hu : P.underlying t with
    | none => rfl
    | some u =>
      cases u with
      | slice e =>
        cases i with
        | v x =>
          cases x with
          | int kk n =>
            simp only
            congr 1
            funext s
            cases hk : τ[k]? with
            | none => rfl
            | some r =>
              cases r with
              | arr sz xs =>
                simp only [Option.bind_some, shapeR]
                split
                · by_cases hlt : off + n.toNat < xs.length
                  · rw [if_pos hlt, List.getElem?_eq_getElem hlt]; rfl
                  · rw [if_neg hlt, List.getElem?_eq_none (by omega)]; rfl
                · rfl
              | _ => rfl
          | _ => rfl
        | _ => rfl
      | array m e =>
        cases i with
        | v x =>
          cases x with
          | int kk n =>
            simp only
            congr 1
            funext s
            split <;> rfl
          | _ => rfl
        | _ => rfl
      | _ => cases i <;> rfl
  rw [key, key, h]
mutual
theorem noDead_kill {ks : List Nat} : ∀ (v w : AV), killV ks v = w → noDeadV w = true → v = w
  | .os t a b, w, h, hd => by
    simp only [killV] at h
    split at h
    · subst h; simp [noDeadV] at hd
    · exact h
  | .pt t a b, w, h, hd => by
    simp only [killV] at h
    split at h
    · subst h; simp [noDeadV] at hd
    · exact h
  | .mp t, w, h, hd => by
    simp only [killV] at h
    split at h
    · subst h; simp [noDeadV] at hd
    · exact h
  | .rp cells, w, h, hd => by
    simp only [killV] at h; subst h
    simp only [noDeadV] at hd
    rw [← noDeadL_kill cells _ rfl hd]
  | .clo f cells, w, h, hd => by
    simp only [killV] at h; subst h
    simp only [noDeadV] at hd
    rw [← noDeadL_kill cells _ rfl hd]
  | .agg cells, w, h, hd => by
    simp only [killV] at h; subst h
    simp only [noDeadV] at hd
    rw [← noDeadL_kill cells _ rfl hd]
  | .tup cells, w, h, hd => by
    simp only [killV] at h; subst h
    simp only [noDeadV] at hd
    rw [← noDeadL_kill cells _ rfl hd]
  | .v x, w, h, _ => h
  | .nil, w, h, _ => h
  | .sl xs, w, h, _ => h
  | .cl xs, w, h, _ => h
  | .dead, w, h, _ => h
theorem noDeadL_kill {ks : List Nat} : ∀ (l m : List AV), killL ks l = m → noDeadL m = true → l = m
  | [], m, h, _ => h
  | x :: r, m, h, hd => by
    simp only [killL] at h; subst h
    simp only [noDeadL, Bool.and_eq_true] at hd
    rw [← noDead_kill x _ rfl hd.1, ← noDeadL_kill r _ rfl hd.2]
end
theorem killL_drop (ks : List Nat) : ∀ (l : List AV) (n : Nat), killL ks (l.drop n) = (killL ks l).drop n
  | l, 0 => rfl
  | [], n + 1 => rfl
  | x :: r, n + 1 => by simp only [List.drop_succ_cons, killL]; exact killL_drop ks r n
theorem killL_take (ks : List Nat) : ∀ (l : List AV) (n : Nat), killL ks (l.take n) = (killL ks l).take n
  | l, 0 => rfl
  | [], n + 1 => rfl
  | x :: r, n + 1 => by simp only [List.take_succ_cons, killL]; rw [killL_take ks r n]
theorem loadA_kill {t : TypeId} {cs cs' : List AV} {ks : List Nat} {v : AV} (h : loadA P t cs' = some v) (hk : killL ks cs = killL ks cs') (hd : noDeadV v = true) (ha : killV ks v = v) : loadA P t cs = some v := by
  have hl : cs.length = cs'.length := by rw [← killL_len ks cs, hk, killL_len]
  unfold loadA at h ⊢
  split at h
  · cases h
  · split at h
    · rename_i hagg
      rw [if_pos hagg]
      obtain ⟨n, hn, h⟩ := Option.bind_eq_some_iff.1 h
      rw [hn]
      simp only [Option.bind_some]
      split at h
      · rename_i hle
        rw [if_pos (by omega)]
        cases h
        simp only [killV, AV.agg.injEq] at ha
        simp only [noDeadV] at hd
        have h2 : killL ks (cs.take n) = cs'.take n := by rw [killL_take, hk, ← killL_take, ha]
        rw [noDeadL_kill _ _ h2 hd]
      · cases h
    · rename_i hagg
      rw [if_neg hagg]
      cases cs' with
      | nil => cases h
      | cons y r' =>
        cases cs with
        | nil => simp at hl
        | cons x r =>
          simp only [List.head?_cons, Option.some.injEq] at h ⊢
          subst h
          simp only [killL, List.cons.injEq] at hk
          exact noDead_kill x _ (hk.1.trans ha) hd
/-- One row is the same, but for these tokens. -/
def UpTo (k : Nat) (ks : List Nat) (σ σ' : List Row) : Prop := (σ[k]?).map (killR ks) = (σ'[k]?).map (killR ks)
mutual
theorem killV_sub {p q : List Nat} (h : ∀ t ∈ q, t ∈ p) : ∀ x : AV, killV p (killV q x) = killV p x
  | .os t a b => by
    by_cases h1 : t ∈ q
    · simp [killV, h1, h t h1]
    · simp [killV, h1]
  | .pt t a b => by
    by_cases h1 : t ∈ q
    · simp [killV, h1, h t h1]
    · simp [killV, h1]
  | .mp t => by
    by_cases h1 : t ∈ q
    · simp [killV, h1, h t h1]
    · simp [killV, h1]
  | .rp cells => by simp only [killV, killL_sub h cells]
  | .clo f cells => by simp only [killV, killL_sub h cells]
  | .agg cells => by simp only [killV, killL_sub h cells]
  | .tup cells => by simp only [killV, killL_sub h cells]
  | .v x => rfl
  | .nil => rfl
  | .sl xs => rfl
  | .cl xs => rfl
  | .dead => rfl
theorem killL_sub {p q : List Nat} (h : ∀ t ∈ q, t ∈ p) : ∀ l : List AV, killL p (killL q l) = killL p l
  | [] => rfl
  | x :: r => by simp only [killL, killV_sub h x, killL_sub h r]
end
theorem upTo_new {k t : Nat} {ks : List Nat} {row : Row} {σ : List Row} (h : k ≠ t) (ht : t ∈ ks) : UpTo k ks σ (newRow t row σ) := by
  unfold UpTo newRow
  rw [List.getElem?_set, if_neg (fun e => h e.symm), List.getElem?_map, Option.map_map]
  congr 1
  funext r
  cases r with
  | box cells => simp only [Function.comp, killR, killL_sub (p := ks) (q := [t]) (by simp [ht])]
  | _ => rfl
theorem upTo_new2 {k t : Nat} {ks : List Nat} {row : Row} {σ σ' : List Row} (h : UpTo k ks σ σ') (hl : σ.length = σ'.length) : UpTo k ks (newRow t row σ) (newRow t row σ') := by
  unfold UpTo newRow at *
  rw [List.getElem?_set, List.getElem?_set, List.length_map, List.length_map, hl]
  split
  · rfl
  · rw [List.getElem?_map, List.getElem?_map, Option.map_map, Option.map_map]
    have e : (killR ks ∘ killR [t]) = (killR [t] ∘ killR ks) := funext fun r => killR_comm _ _ _
    rw [e, ← Option.map_map, ← Option.map_map, h]
theorem load_upTo {t : TypeId} {k i j : Nat} {ks : List Nat} {σ σ' : List Row} {v : AV} (h : ((cellsAt σ' (.pt k i j)).bind fun cs => loadA P t cs) = some v) (hu : UpTo k ks σ σ') (hd : noDeadV v = true) (ha : killV ks v = v) : ((cellsAt σ (.pt k i j)).bind fun cs => loadA P t cs) = some v := by
  obtain ⟨cs', hc, hv⟩ := Option.bind_eq_some_iff.1 h
  unfold UpTo at hu
  simp only [cellsAt] at hc ⊢
  cases h2 : σ'[k]? with
  | none => rw [h2] at hc; cases hc
  | some r' =>
    rw [h2] at hc hu
    cases h1 : σ[k]? with
    | none => rw [h1] at hu; cases hu
    | some r =>
      rw [h1] at hu
      simp only [Option.map_some, Option.some.injEq] at hu
      cases r' with
      | arr sz xs =>
        cases r with
        | arr sz' xs' =>
          simp only [killR] at hu
          cases hu
          simp only at hc ⊢
          rw [hc]
          exact hv
        | _ => simp [killR] at hu
      | box cells =>
        cases r with
        | box cells' =>
          simp only [killR, Row.box.injEq] at hu
          simp only at hc ⊢
          split at hc
          · rename_i hi
            cases hc
            rw [if_pos hi]
            simp only [Option.bind_some]
            exact loadA_kill hv (by rw [killL_drop, killL_drop, hu]) hd ha
          · cases hc
        | _ => simp [killR] at hu
      | _ => cases hc
/-- A store changes one row alone. -/
theorem storeA_at {t : TypeId} {k i j : Nat} {x : AV} {out : Out} (h : storeA P t σ (.pt k i j) x = some out) (hm : out.mv = []) : ∀ u : Nat, u ≠ k → out.sto[u]? = σ[u]? := fun u hu => by
  unfold storeA at h
  split at h
  case isFalse => cases h
  obtain ⟨s, hs, h⟩ := Option.bind_eq_some_iff.1 h
  split at h
  case isFalse => cases h
  simp only at h
  split at h
  · split at h
    · cases h; simp only; rw [List.getElem?_set, if_neg (fun e => hu e.symm)]
    · cases h
  · obtain ⟨fz, hfz, h⟩ := Option.bind_eq_some_iff.1 h
    split at h
    · cases h
    · split at h
      · split at h
        · cases h
          have : fz.2 = [] := hm
          simp only [this, giveUp, List.isEmpty_nil, if_true]
          rw [List.getElem?_set, if_neg (fun e => hu e.symm)]
        · cases h
      · cases h
  · cases h
theorem selM_rel {Up : Nat → List Row → List Row} {W : Nat → Bool} {b b' : Nat → Bool} {n : Nat} {R : List Row → List Row → Prop} (hr : ∀ s, R s s) (hsy : ∀ s s', R s s' → R s' s) (htr : ∀ s s1 s2, R s s1 → R s1 s2 → R s s2) : ∀ (l : List (Oper × Nat)) (s s' : List Row), (s = s' ∨ (R s s' ∧ ∀ x ∈ l, b x.2 = true → b' x.2 = true → W x.2 = true → ∀ s s', s.length = n → s'.length = n → R s s' → R (Up x.2 s) (Up x.2 s'))) → s.length = n → s'.length = n →
    (∀ x ∈ l, W x.2 = true → ∀ s : List Row, s.length = n → (Up x.2 s).length = n) →
    (l.Pairwise fun x y => b x.2 ≠ b' x.2 → W x.2 = true → b y.2 = true → b' y.2 = true → W y.2 = true → ∀ s s', s.length = n → s'.length = n → R s s' → R (Up y.2 s) (Up y.2 s')) →
    (∀ x ∈ l, b x.2 ≠ b' x.2 → W x.2 = true → ∀ s : List Row, s.length = n → R s (Up x.2 s)) → R (selM Up W b l s) (selM Up W b' l s')
  | [], s, s', h, _, _, _, _, _ => by
    rcases h with rfl | h
    · exact hr _
    · exact h.1
  | x :: r, s, s', h, hl, hl', hU, hP, hD => by
    have hP' := List.pairwise_cons.1 hP
    have hsh : R s s' := by
      rcases h with rfl | h
      · exact hr _
      · exact h.1
    have hUx := hU x (by simp)
    have hDx := hD x (by simp)
    unfold selM
    have go : ∀ t t' : List Row, (t = t' ∨ (R t t' ∧ ∀ y ∈ r, b y.2 = true → b' y.2 = true → W y.2 = true → ∀ s s', s.length = n → s'.length = n → R s s' → R (Up y.2 s) (Up y.2 s'))) → t.length = n → t'.length = n → R (selM Up W b r t) (selM Up W b' r t') := fun t t' h1 h2 h3 =>
      selM_rel hr hsy htr r t t' h1 h2 h3 (fun y hy => hU y (by simp [hy])) hP'.2 (fun y hy => hD y (by simp [hy]))
    have later : ∀ t t' : List Row, R t t' → (∀ y ∈ r, b y.2 = true → b' y.2 = true → W y.2 = true → ∀ s s', s.length = n → s'.length = n → R s s' → R (Up y.2 s) (Up y.2 s')) → t.length = n → t'.length = n → R (selM Up W b r t) (selM Up W b' r t') := fun t t' h1 h2 => go t t' (.inr ⟨h1, h2⟩)
    cases hW : W x.2 with
    | false =>
      simp only [Bool.and_false, Bool.false_eq_true, if_false]
      refine go s s' ?_ hl hl'
      rcases h with h | h
      · exact .inl h
      · exact .inr ⟨h.1, fun y hy => h.2 y (by simp [hy])⟩
    | true =>
      simp only [Bool.and_true]
      cases hb : b x.2 with
      | true =>
        cases hb' : b' x.2 with
        | true =>
          simp only [if_true]
          rcases h with rfl | h
          · exact go _ _ (.inl rfl) (hUx hW s hl) (hUx hW s hl)
          · exact later _ _ (h.2 x (by simp) hb hb' hW s s' hl hl' h.1) (fun y hy => h.2 y (by simp [hy])) (hUx hW s hl) (hUx hW s' hl')
        | false =>
          simp only [if_true, Bool.false_eq_true, if_false]
          have hne : b x.2 ≠ b' x.2 := by rw [hb, hb']; simp
          exact later _ _ (htr _ _ _ (hsy _ _ (hDx hne hW s hl)) hsh) (fun y hy => hP'.1 y hy hne hW) (hUx hW s hl) hl'
      | false =>
        cases hb' : b' x.2 with
        | true =>
          simp only [if_true, Bool.false_eq_true, if_false]
          have hne : b x.2 ≠ b' x.2 := by rw [hb, hb']; simp
          exact later _ _ (htr _ _ _ hsh (hDx hne hW s' hl')) (fun y hy => hP'.1 y hy hne hW) hl (hUx hW s' hl')
        | false =>
          simp only [Bool.false_eq_true, if_false]
          refine go s s' ?_ hl hl'
          rcases h with h | h
          · exact .inl h
          · exact .inr ⟨h.1, fun y hy => h.2 y (by simp [hy])⟩
theorem selM_none {S : Nat → List Row → List Row} {W : Nat → Bool} {b : Nat → Bool} : ∀ (l : List (Oper × Nat)) (s : List Row), (∀ x ∈ l, b x.2 = true → W x.2 = false) → selM S W b l s = s
  | [], s, _ => rfl
  | x :: r, s, h => by
    unfold selM
    have : (b x.2 && W x.2) = false := by
      cases hb : b x.2 with
      | false => rfl
      | true => rw [h x (by simp) hb]; rfl
    rw [this, if_neg (by simp)]
    exact selM_none r s (fun y hy => h y (by simp [hy]))
theorem selE_append {MV : Nat → List Nat} {V : Nat → AV} {b : Nat → Bool} : ∀ (l l' : List (Oper × Nat)) (env : List AV), selE MV V b (l ++ l') env = selE MV V b l' (selE MV V b l env)
  | [], _, _ => rfl
  | x :: r, l', env => by simp only [List.cons_append, selE]; exact selE_append r l' _
theorem selM_append {S : Nat → List Row → List Row} {W : Nat → Bool} {b : Nat → Bool} : ∀ (l l' : List (Oper × Nat)) (s : List Row), selM S W b (l ++ l') s = selM S W b l' (selM S W b l s)
  | [], _, _ => rfl
  | x :: r, l', s => by simp only [List.cons_append, selM]; exact selM_append r l' _
end
end Go.Proofs.YtabdcfcnngnnoaaDoor.E
