/- What the evaluator with premises says is what the evaluator says. -/
import Derived.Test.YtabdcfcnngnnoaaDoorE19x
set_option linter.unusedVariables false
set_option linter.unusedSimpArgs false
namespace Go.Proofs.YtabdcfcnngnnoaaDoor.E
open Go
def Snd {α : Type} (m : M α) (o : Option α) : Prop := ∀ Q : α → Prop, m Q → ∃ x, o = some x ∧ Q x
theorem Snd.rt {α : Type} {x : α} : Snd (rt x) (some x) := fun Q h => ⟨x, rfl, h⟩
theorem Snd.op {α : Type} {o : Option α} : Snd (op? o) o := fun Q h => by
  cases o with
  | none => exact h.elim
  | some x => exact ⟨x, rfl, h⟩
theorem Snd.no {α : Type} {o : Option α} : Snd (op? none) o := fun Q h => h.elim
theorem Snd.bd {α β : Type} {m : M α} {f : α → M β} {o : Option α} {g : α → Option β} (h : Snd m o) (hf : ∀ a, o = some a → Snd (f a) (g a)) : Snd (bd m f) (o.bind g) := fun Q hQ => by
  obtain ⟨x, rfl, hx⟩ := h _ hQ
  exact hf x rfl Q hx
theorem Snd.map {α β : Type} {m : M α} {f : α → β} {o : Option α} (h : Snd m o) : Snd (E.bd m fun x => E.rt (f x)) (o.map f) := fun Q hQ => by
  obtain ⟨x, rfl, hx⟩ := h _ hQ
  exact ⟨f x, rfl, hx⟩
theorem Snd.rq {α : Type} {p : Prop} {m : M α} {o : Option α} (h : p → Snd m o) : Snd (rq p m) o := fun Q hQ => h hQ.1 Q hQ.2
theorem Snd.of {α : Type} {m : M α} {o o' : Option α} (h : Snd m o) (e : o = o') : Snd m o' := e ▸ h
theorem TB_iff {b : Bool} {X Y : Prop} : TB b X Y ↔ (b = true → X) ∧ (b = false → Y) := by cases b <;> simp [TB]
section
variable {P : Program}
theorem eqFieldsT_eq {eq eq' : TypeId → List AV → List AV → Option Bool} (he : ∀ t xs ys b, eq t xs ys = some b → eq' t xs ys = some b) : ∀ (l : List Field) (xs ys : List AV) (b : Bool), eqFieldsT P eq xs ys l = some b → eqFields P eq' xs ys l = some b
  | [], xs, ys, b, h => h
  | f :: r, xs, ys, b, h => by
    simp only [eqFieldsT, eqFields] at h ⊢
    split at h
    · cases h
    · rename_i hn
      rw [if_neg hn]
      obtain ⟨s, hs, h⟩ := Option.bind_eq_some_iff.1 h
      obtain ⟨c, hc, h⟩ := Option.bind_eq_some_iff.1 h
      obtain ⟨d, hd, rfl⟩ := Option.map_eq_some_iff.1 h
      rw [hs]
      simp only [Option.bind_some]
      rw [he _ _ _ _ hc]
      simp only [Option.bind_some]
      cases c with
      | true => simpa using eqFieldsT_eq he r xs ys d hd
      | false => simp
theorem eqT_eq : ∀ (n : Nat) (t : TypeId) (xs ys : List AV) (b : Bool), eqT P n t xs ys = some b → eqA P n t xs ys = some b
  | 0, t, xs, ys, b, h => by simp [eqT] at h
  | n + 1, t, xs, ys, b, h => by
    unfold eqT at h
    unfold eqA
    split at h
    · rename_i hu
      simp only [hu]
      exact h
    · rename_i hu
      simp only [hu]
      exact h
    · rename_i hu
      simp only [hu]
      split at h
      · cases h
      · rename_i hs
        rw [if_neg hs]
        exact eqFieldsT_eq (eqT_eq n) _ _ _ _ h
    · cases h
theorem binT_ok (op : BinOp) (t : TypeId) (x y : AV) : Snd (binT P op t x y) (binA P op t x y) := by
  unfold binT
  split
  · exact .rq fun h => Snd.rt.of (by simp only [binA, shiftI]; rw [if_neg (by omega)]; rfl)
  · exact .rq fun h => Snd.rt.of (by simp only [binA, shiftI]; rw [if_neg (by omega)]; rfl)
  · split
    · rename_i hk
      subst hk
      exact .rq fun h => Snd.rt.of (by simp only [binA, arithI, ne_eq, not_true, if_false]; rw [if_neg h]; rfl)
    · exact .no
  · split
    · rename_i hk
      subst hk
      exact .rq fun h => Snd.rt.of (by simp only [binA, arithI, ne_eq, not_true, if_false]; rw [if_neg h]; rfl)
    · exact .no
  · split
    · split
      · exact .no
      · rename_i hu hg
        intro Q hQ
        obtain ⟨r, hr, hq⟩ := Snd.op Q hQ
        obtain ⟨b, hb, rfl⟩ := Option.map_eq_some_iff.1 hr
        refine ⟨_, ?_, hq⟩
        simp only [binA, hu]
        rw [if_neg hg, eqT_eq _ _ _ _ _ hb]
        rfl
    · exact .no
  · split
    · split
      · exact .no
      · rename_i hu hg
        intro Q hQ
        obtain ⟨r, hr, hq⟩ := Snd.op Q hQ
        obtain ⟨b, hb, rfl⟩ := Option.map_eq_some_iff.1 hr
        refine ⟨_, ?_, hq⟩
        simp only [binA, hu]
        rw [if_neg hg, eqT_eq _ _ _ _ _ hb]
        rfl
    · exact .no
  · exact .op
theorem boundT_ok (lim : Nat) (o : Option AV) (d : Nat) : Snd (boundT lim o d) (boundA lim o d) := by
  unfold boundT
  split
  · exact .rt
  · exact .rq fun h => Snd.rt.of (by simp only [boundA]; rw [if_pos h])
  · exact .no
theorem sliceT_ok (σ : List Row) (t : TypeId) (x : AV) (lo hi : Option AV) : Snd (sliceT P σ t x lo hi) (sliceA P σ t x lo hi) := by
  unfold sliceT
  split
  · rename_i hu
    simp only [sliceA, hu]
    exact Snd.op.bd fun s _ => (boundT_ok _ _ _).bd fun h _ => (boundT_ok _ _ _).bd fun l _ => .rt
  · rename_i hu
    simp only [sliceA, hu]
    refine Snd.op.bd fun s _ => .rq fun hr => ?_
    rw [if_pos hr]
    exact (boundT_ok _ _ _).bd fun h _ => (boundT_ok _ _ _).bd fun l _ => .rt
  · rename_i hu
    simp only [sliceA, hu]
    split
    · rename_i hs
      simp only [hs]
      refine Snd.op.bd fun s _ => ?_
      split
      · exact (boundT_ok _ _ _).bd fun h _ => (boundT_ok _ _ _).bd fun l _ => .rt
      · exact .no
    · exact .no
  · rename_i hu
    simp only [sliceA, hu]
    exact (boundT_ok _ _ _).bd fun h _ => (boundT_ok _ _ _).bd fun l _ => .rt
  · exact .no
theorem coL_length : ∀ (z row : List AV) (j : Nat), (coL z row j).length = z.length
  | [], _, _ => rfl
  | z :: r, row, j => by simp [coL, coL_length r row (j + 1)]
theorem cellT_length (t : TypeId) (row row' : List AV) (j j' : Nat) : (cellT P t row j).length = (cellT P t row' j').length := by simp [cellT, coL_length]
/-- As many cells as the type has are enough. -/
theorem loadA_take {t : TypeId} {cells : List AV} {n : Nat} {v : AV} (hn : esz P t = some n) (h : loadA P t (cells.take n) = some v) : loadA P t cells = some v := by
  unfold loadA at h ⊢
  cases hu : P.underlying t with
  | none => rw [hu] at h; cases h
  | some u =>
    rw [hu] at h
    simp only at h ⊢
    split at h
    · rename_i ha
      rw [if_pos ha]
      rw [hn] at h ⊢
      simp only [Option.bind_some, List.length_take] at h ⊢
      split at h
      · rename_i hle
        rw [if_pos (by omega)]
        rw [List.take_take, Nat.min_self] at h
        exact h
      · cases h
    · rename_i ha
      rw [if_neg ha]
      cases cells with
      | nil => simp at h
      | cons c r =>
        cases n with
        | zero => simp at h
        | succ n => simpa using h
theorem loadT_ok (t : TypeId) (σ : List Row) (a : AV) : Snd (loadT P t σ a) ((cellsAt σ a).bind fun cs => loadA P t cs) := by
  unfold loadT
  split
  · split
    · rename_i k i j _ sz xs hs
      split
      · rename_i hz
        refine .rq fun h => ?_
        obtain ⟨row, hr, he⟩ := Option.map_eq_some_iff.1 h
        intro Q hQ
        obtain ⟨v, hv, hq⟩ := Snd.op Q hQ
        refine ⟨v, ?_, hq⟩
        simp only [cellsAt, hs, hr, Option.map_some, Option.bind_some]
        rw [← he] at hv
        exact loadA_take hz hv
      · exact .no
    · exact Snd.op.bd fun _ _ => .op
  · exact Snd.op.bd fun _ _ => .op
theorem freezeL_len {σ : List Row} : ∀ {cs : List AV} {fz : List AV × List Nat}, freezeL σ cs = some fz → fz.1.length = cs.length
  | [], fz, h => by cases h; rfl
  | x :: r, fz, h => by
    simp only [freezeL] at h
    obtain ⟨a, _, h⟩ := Option.bind_eq_some_iff.1 h
    obtain ⟨b, hb, h⟩ := Option.bind_eq_some_iff.1 h
    cases h
    simp [freezeL_len hb]
theorem storeT_ok (t : TypeId) (σ : List Row) (p x : AV) : Snd (storeT P t σ p x) (storeA P t σ p x) := by
  unfold storeT
  split
  · split
    · rename_i k i j _ sz xs hs
      split
      · rename_i hb
        simp only [storeA, hb, if_true, hs]
        refine Snd.op.bd fun s _ => ?_
        split
        · rename_i hl
          refine Snd.op.bd fun fz hfz => ?_
          split
          · exact .no
          · rename_i hc
            split
            · rename_i hle
              refine .rq fun hr => ?_
              obtain ⟨row, hrow, hlen⟩ := Option.map_eq_some_iff.1 hr
              simp only [hrow]
              have hget : rowAt xs i = row := by simp [rowAt, List.getD_eq_getElem?_getD, hrow]
              have hfl := freezeL_len hfz
              split
              · rename_i h0
                refine Snd.rt.of ?_
                rw [if_pos (by omega)]
                have : splice row j fz.1 = fz.1 := by
                  rw [h0.1]
                  simp only [splice, List.take_zero, List.nil_append, Nat.zero_add]
                  rw [List.drop_eq_nil_of_le (by omega), List.append_nil]
                rw [this]
              · refine Snd.rt.of ?_
                rw [if_pos (by omega), hget]
            · exact .no
        · exact .no
      · exact .no
    · exact .op
  · exact .op
theorem makeSliceT_ok (base : Nat) (own : List Nat) (t : TypeId) (l c : AV) (σ : List Row) : Snd (makeSliceT P base own t l c σ) (makeSliceA P base own t l c σ) := by
  unfold makeSliceT
  split
  · rename_i hu
    simp only [makeSliceA, hu]
    refine Snd.op.bd fun q _ => .rq fun h => ?_
    rw [if_pos h]
    exact .op
  · exact .no
theorem getD_ok {xs : List (List AV)} {n : Nat} (h : n < xs.length) : xs[n]? = some (xs.getD n []) := by simp [List.getD_eq_getElem?_getD, List.getElem?_eq_getElem h]
theorem indexAddrT_ok (σ : List Row) (t : TypeId) (x i : AV) : Snd (indexAddrT P σ t x i) (indexAddrA P σ t x i) := by
  unfold indexAddrT
  split
  · rename_i hu
    simp only [indexAddrA, hu]
    refine Snd.op.bd fun s _ => ?_
    split
    · split
      · rename_i xs hz
        refine .rq fun h => Snd.rt.of ?_
        have hlt := (List.getElem?_eq_some_iff.1 h.2).1
        simp only
        rw [if_pos (by omega), h.2]
        simp only [Option.bind_some]
        rw [if_pos ((cellT_length _ _ _ _ _).trans hz.symm)]
      · exact .no
    · rename_i k off len
      split
      · rename_i sz xs hs
        split
        · rename_i hz
          refine .rq fun h => Snd.rt.of ?_
          simp only [hs]
          rw [if_pos ⟨h.1, h.2.1, hz⟩, getD_ok h.2.2]
          rfl
        · exact .no
      · exact .no
    · exact .no
  · rename_i hu
    simp only [indexAddrA, hu]
    refine Snd.op.bd fun s _ => .rq fun h => ?_
    rw [if_pos h]
    split
    · exact .rt
    · exact .rt
    · exact .no
  · exact .no
theorem indexT_ok (t : TypeId) (x i : AV) : Snd (indexT P t x i) (indexA P t x i) := by
  unfold indexT
  split
  · rename_i hu
    simp only [indexA, hu]
    split
    · rename_i hz
      refine .rq fun h => ?_
      rw [if_pos ⟨h.1, h.2.1⟩]
      intro Q hQ
      obtain ⟨v, hv, hq⟩ := Snd.op Q hQ
      refine ⟨v, ?_, hq⟩
      rw [hz]
      simp only [Option.bind_some]
      refine loadA_take hz ?_
      rw [h.2.2]
      exact hv
    · exact .no
  · rename_i hu
    simp only [indexA, hu]
    rename_i a b _
    refine .rq fun h => Snd.rt.of ?_
    rw [if_pos h.1]
    have e : ∀ (s : ByteArray) (i : Nat), i < s.size → some (AV.v (Value.int .u8 ((s[i]?).getD 0).toNat)) = (s[i]?).map fun b => AV.v (.int .u8 b.toNat) := fun s i hi => by
      rw [getElem?_pos s i hi]
      rfl
    exact e _ _ h.2
  · exact .no
theorem appendT0_ok (cut : Bool) (base : Nat) (own : List Nat) (s : Nat) (σ : List Row) (x : AV) (ys : List (List AV)) : Snd (appendT0 cut base own s σ x ys) (appendA0 base own s σ x ys) := by
  unfold appendT0
  split
  · refine .rq fun h => ?_
    simp only [appendA0, atEnd, appendO]
    rw [if_pos h]
    exact .op
  · refine .rq fun h => ?_
    simp only [appendA0, atEnd, appendO]
    rw [if_pos h]
    exact .op
  · split
    · rename_i k off len _ sz xs hs
      split
      · rename_i hz
        split
        · refine .rq fun h => Snd.rt.of ?_
          simp only [appendA0, atEnd, hs]
          rw [if_neg (by omega)]
          simp only [appendO, hs]
          rw [if_pos hz, if_pos h.1]
        · split
          · rename_i h0
            refine .rq fun h => Snd.rt.of ?_
            simp only [appendA0, atEnd, hs]
            rw [if_pos ⟨hz, h0, h.1, h.2⟩]
          · rename_i h0
            intro Q hQ
            unfold tb at hQ
            cases hb : ((ys.length : Int) == 0) with
            | true =>
              rw [hb] at hQ
              have hy : ys = [] := List.eq_nil_of_length_eq_zero (by have := beq_iff_eq.1 hb; omega)
              subst hy
              obtain ⟨h, hQ⟩ := hQ
              refine ⟨_, ?_, hQ⟩
              simp only [appendA0, atEnd, hs]
              rw [if_neg (by omega)]
              simp only [appendO, hs]
              have e1 : xs.take (off + len) ++ [] ++ xs.drop (off + len + ([] : List (List AV)).length) = xs := by
                rw [List.append_nil, List.length_nil, Nat.add_zero, h, List.take_length, List.drop_length, List.append_nil]
              have e2 : σ.set k (.arr s xs) = σ := by
                apply List.ext_getElem?
                intro j
                rw [List.getElem?_set]
                split
                · rename_i e
                  subst e
                  split
                  · rw [hs, hz]
                  · rw [List.getElem?_eq_none (by omega)]
                · rfl
              rw [if_pos hz, if_pos (by simp; omega), e1, e2, List.length_nil, Nat.add_zero]
            | false =>
              rw [hb] at hQ
              have hy : ¬ ys.length = 0 := fun e => by have := beq_eq_false_iff_ne.1 hb; omega
              obtain ⟨h, hQ⟩ := hQ
              refine ⟨_, ?_, hQ⟩
              simp only [appendA0, atEnd, hs]
              rw [if_neg (by omega)]
              simp only [appendO, hs]
              rw [if_pos hz, if_neg (by omega), if_pos h]
      · exact .no
    · exact .no
  · exact .no
theorem appendT_ok (cut : Bool) (base : Nat) (own : List Nat) (s : Nat) (σ : List Row) (x : AV) (ys : List (List AV)) : Snd (appendT cut base own s σ x ys) (appendA base own s σ x ys) := by
  unfold appendT appendA
  split
  · unfold appendRT
    split
    · rename_i k off len
      split
      · rename_i sz xs hs
        split
        · rename_i hz
          refine .rq fun h => Snd.rt.of ?_
          simp only [appendR, hs]
          rw [if_pos ⟨hz, h.1, h.2⟩]
        · exact .no
      · exact .no
    · exact .no
  · exact appendT0_ok cut base own s σ x ys
theorem appendZT_ok (e : TypeId) (σ : List Row) (x y : AV) : Snd (appendZT P e σ x y) (appendZ P e σ x y) := by
  unfold appendZT appendZ
  split
  · refine Snd.op.bd fun q _ => ?_
    split
    · rename_i hs
      split
      · rename_i hz
        refine .rq fun h => Snd.rt.of ?_
        simp only [hs]
        rw [if_pos ⟨hz, h⟩]
      · exact .no
    · exact .no
  · exact .no
theorem builtinT_ok (cut : Bool) (base : Nat) (own : List Nat) (b : Builtin) (ts : List TypeId) (args : List AV) (σ : List Row) : Snd (builtinT P cut base own b ts args σ) (builtinA P base own b ts args σ) := by
  unfold builtinT
  split
  · rename_i t rest x y
    split
    · rename_i e hu
      split
      · rename_i u hts
        split
        · rename_i e' hu'
          cases hts
          simp only [builtinA, hu, hu']
          refine Snd.op.bd fun q _ => Snd.op.bd fun ys _ => .rq fun h => ?_
          rw [if_pos h]
          exact appendT_ok _ _ _ _ _ _ _
        · rename_i kn hu'
          cases hts
          simp only [builtinA, hu, hu']
          exact appendZT_ok _ _ _ _
        · exact .no
      · exact .no
    · exact .no
  · split
    · rename_i hu
      simp only [builtinA, hu]
      refine Snd.op.bd fun q _ => Snd.op.bd fun ys _ => .rq fun h => ?_
      rw [if_pos h]
      exact .op
    · exact .no
  · exact .op
theorem lookupT_ok (t : TypeId) (σ : List Row) (m x : AV) (ok : Bool) : Snd (lookupT P t σ m x ok) (lookupA P t σ m x ok) := by
  unfold lookupT lookupA
  refine Snd.op.bd fun q _ => .rq fun hg => .rq fun he => Snd.rt.of ?_
  rw [if_pos hg, ← he]
  rfl
theorem mapUpdateT_ok (t : TypeId) (σ : List Row) (m x v : AV) : Snd (mapUpdateT P t σ m x v) (mapUpdateA P t σ m x v) := by
  unfold mapUpdateT mapUpdateA
  refine Snd.op.bd fun q _ => Snd.op.bd fun v _ => .rq fun hg => Snd.rt.of ?_
  rw [if_pos hg]
theorem mapEntryT_ok (t : TypeId) (σ : List Row) (m x : AV) : Snd (mapEntryT P t σ m x) (mapEntryA P t σ m x) := by
  unfold mapEntryT mapEntryA
  refine Snd.op.bd fun q _ => .rq fun hg => .rq fun he => Snd.rt.of ?_
  rw [if_pos hg, ← he]
  rfl
theorem entryStoreT_ok (σ : List Row) (m s v : AV) : Snd (entryStoreT σ m s v) (entryStoreA σ m s v) := by
  unfold entryStoreT entryStoreA
  split
  · split
    · rename_i hk
      simp only [hk]
      refine Snd.op.bd fun v _ => .rq fun hg => Snd.rt.of ?_
      rw [if_pos hg]
    · exact .no
  · exact .no
variable {call : CallF} {cm : CallM}
theorem callST_ok (hc : ∀ f args σ, Snd (cm f args σ) (call f args σ)) (base : Nat) (own : List Nat) (f : FuncId) (args : List AV) (σ : List Row) : Snd (callST cm base own f args σ) (callS call base own f args σ) := by
  unfold callST callS
  simp only
  split
  · exact (hc _ _ _).bd fun q _ => .op
  · unfold callBT
    split
    · rename_i hcl
      intro Q hQ
      obtain ⟨q, hq, h2⟩ := hc _ _ _ _ hQ
      obtain ⟨out, ho, hQ2⟩ := Snd.op Q h2
      refine ⟨out, ?_, hQ2⟩
      rw [← ho]
      unfold callB
      simp only [hcl, if_true, hq]
    · exact .no
theorem nilTestT_ok {P : Program} (op : BinOp) (t : TypeId) (x : AV) : Snd (nilTestT P op t x) (nilTest P op t x) := by
  unfold nilTestT
  split
  · rename_i hu
    refine .rq fun h => ?_
    simp only [nilTest, hu, if_pos h]
    exact .op
  · rename_i hu
    refine .rq fun h => ?_
    simp only [nilTest, hu, if_pos h]
    exact .op
  · exact .op
theorem clipT_ok (xs : List (List AV)) (hi mx : Option AV) : Snd (clipT xs hi mx) (clipA xs hi mx) := by
  unfold clipT clipA
  split
  · exact (boundT_ok _ _ _).bd fun m _ => (boundT_ok _ _ _).bd fun h _ => Snd.rq fun hc => Snd.rt.of (by rw [if_pos hc])
  · exact .no
theorem slice3T_ok {P : Program} (σ : List Row) (t : TypeId) (x : AV) (lo hi mx : Option AV) : Snd (slice3T P σ t x lo hi mx) (slice3A P σ t x lo hi mx) := by
  unfold slice3T slice3A
  split
  · rename_i hu
    simp only [hu]
    refine Snd.op.bd fun _ _ => ?_
    have gen : ∀ q : Option Nat, Snd (bd (op? q) fun n => bd (boundT n mx n) fun m => match hi with
        | none => op? none
        | some _ => bd (boundT m hi 0) fun h => bd (boundT h lo 0) fun l => rt (if m = l then AV.nil else AV.dead))
      (q.bind fun n => (boundA n mx n).bind fun m => match hi with
        | none => none
        | some _ => (boundA m hi 0).bind fun h => (boundA h lo 0).bind fun l => if m = l then some AV.nil else some AV.dead) := fun q => by
      refine Snd.op.bd fun n _ => (boundT_ok _ _ _).bd fun m _ => ?_
      split
      · exact .no
      · refine (boundT_ok _ _ _).bd fun h _ => (boundT_ok _ _ _).bd fun l _ => Snd.rt.of ?_
        split <;> rfl
    cases x with
    | sl xs => cases lo with
      | none => exact clipT_ok xs hi mx
      | some l => exact gen _
    | _ => exact gen _
  · exact .no
theorem lentVT_ok (full : List Row) (x : AV) : Snd (lentVT full x) (lentV full x) := by
  unfold lentVT
  split
  · exact .rt
  · exact .rt
  · split
    · rename_i hr
      exact .rq fun hs => Snd.rt.of (by simp only [lentV, hr]; rw [if_pos hs])
    · exact .no
  · exact .no
theorem lentLT_ok (full : List Row) : ∀ l : List AV, Snd (lentLT full l) (lentL full l)
  | [] => .rt
  | x :: r => (lentVT_ok full x).bd fun y _ => (lentLT_ok full r).map
theorem lentRT_ok (full : List Row) (x : AV) : Snd (lentRT full x) (lentR full x) := by
  unfold lentRT
  split
  · exact (lentLT_ok full _).map
  · exact (lentLT_ok full _).map
  · rename_i h1 h2
    refine (lentVT_ok full x).of ?_
    cases x with
    | tup l => exact absurd rfl (h1 l)
    | agg l => exact absurd rfl (h2 l)
    | _ => rfl
theorem lendT_ok (hc : ∀ f args σ, Snd (cm f args σ) (call f args σ)) (base : Nat) (own : List Nat) (f : FuncId) (args : List AV) (σ : List Row) : Snd (lendT cm base own f args σ) (lendA call base own f args σ) := by
  unfold lendT lendA
  refine Snd.op.bd fun fz hfz => (hc _ _ _).bd fun q hq => ?_
  split
  · simp only
    split
    · rename_i hr
      split
      · rename_i hrow
        split
        · rename_i hb
          refine .rq fun hs => Snd.rt.of ?_
          simp only [hr, hrow]
          rw [if_pos ⟨hb, hs⟩]
        · exact .no
      · exact .no
    · rename_i hr
      refine Snd.rt.of ?_
      simp only [hr]
    · exact .no
  · exact (lentRT_ok _ _).map
  · exact .no
theorem callT_ok (hc : ∀ f args σ, Snd (cm f args σ) (call f args σ)) (base : Nat) (own : List Nat) (f : FuncId) (args : List AV) (σ : List Row) : Snd (callT cm base own f args σ) (callA call base own f args σ) := by
  unfold callT callA
  split
  · exact lendT_ok hc _ _ _ _ _
  · exact callST_ok hc _ _ _ _ _
variable {P : Program}
theorem evOpT_ok (hc : ∀ f args σ, Snd (cm f args σ) (call f args σ)) (cut : Bool) (base : Nat) (own : List Nat) (ea : Operand → Option AV) (σ : List Row) (op : Op) : Snd (evOpT P cm cut base own ea σ op) (evOp P call base own ea σ op) := by
  unfold evOpT
  simp only
  split
  · simp only [evOp]
    refine Snd.op.bd fun a _ => ?_
    refine (loadT_ok _ _ _).map.of ?_
    cases cellsAt σ a <;> rfl
  · simp only [evOp]
    exact Snd.op.bd fun a _ => Snd.op.bd fun x _ => storeT_ok _ _ _ _
  · simp only [evOp]
    split
    · exact Snd.op.bd fun a _ => (nilTestT_ok _ _ _).map
    · exact Snd.op.bd fun a _ => Snd.op.bd fun x _ => (binT_ok _ _ _ _).map
  · simp only [evOp]
    exact Snd.op.bd fun a _ => Snd.op.bd fun x _ => makeSliceT_ok _ _ _ _ _ _
  · simp only [evOp]
    refine Snd.op.bd fun a _ => Snd.op.bd fun x _ => Snd.op.bd fun x _ => Snd.op.bd fun x _ => ?_
    split
    · exact (sliceT_ok _ _ _ _ _).map
    · exact (slice3T_ok _ _ _ _ _ _).map
  · simp only [evOp]
    exact Snd.op.bd fun a _ => Snd.op.bd fun x _ => (indexAddrT_ok _ _ _ _).map
  · simp only [evOp]
    exact Snd.op.bd fun a _ => Snd.op.bd fun x _ => (indexT_ok _ _ _).map
  · rename_i c
    simp only [evOp]
    split
    · rename_i hcal
      simp only [hcal]
      refine Snd.op.bd fun a _ => ?_
      split
      · exact builtinT_ok _ _ _ _ _ _ _
      · exact Snd.op.map
    · rename_i hcal
      simp only [hcal]
      refine Snd.op.bd fun a _ => ?_
      split
      · exact Snd.op.bd fun x _ => callT_ok hc _ _ _ _ _
      · exact .no
    · exact .no
  · simp only [evOp]
    exact Snd.op.bd fun a _ => Snd.op.bd fun x _ => (lookupT_ok _ _ _ _ _).map
  · simp only [evOp]
    exact Snd.op.bd fun a _ => Snd.op.bd fun x _ => Snd.op.bd fun v _ => mapUpdateT_ok _ _ _ _ _
  · simp only [evOp]
    exact Snd.op.bd fun a _ => Snd.op.bd fun x _ => mapEntryT_ok _ _ _ _
  · simp only [evOp]
    exact Snd.op.bd fun a _ => Snd.op.bd fun x _ => Snd.op.bd fun v _ => entryStoreT_ok _ _ _ _
  · intro Q hQ
    obtain ⟨out, ho, hq⟩ := Snd.op Q hQ
    refine ⟨out, ?_, hq⟩
    rcases evOp_call ho with h1 | ⟨f, args, sto, r, h1, h2⟩
    · exact h1 _
    · cases h1
theorem set_same {env : List AV} {d : Nat} {x : AV} (h : env[d]? = some x) : env.set d x = env := by
  refine List.ext_getElem? fun i => ?_
  rw [List.getElem?_set]
  split
  · rename_i e
    subst e
    split
    · exact h.symm
    · rename_i hn
      rw [List.getElem?_eq_none (by omega)] at h
      cases h
  · rfl
theorem tellT_ok (env : List AV) (d : Nat) : Snd (tellT env d) (some env) := by
  unfold tellT
  split
  · rename_i b hb
    intro Q hQ
    refine ⟨env, rfl, ?_⟩
    cases b with
    | true => rw [set_same hb] at hQ; exact hQ
    | false => simp only [TB] at hQ; rw [set_same hb] at hQ; exact hQ
  · exact .rt
theorem tellO_ok (d : Option Nat) (st : St) : Snd (tellO d st) (some st) := by
  unfold tellO
  split
  · exact ((tellT_ok _ _).map (f := fun env => { st with env := env }))
  · exact .rt
theorem Snd.tell {β : Type} {d : Option Nat} {st : St} {f : St → M β} {o : Option β} (h : Snd (f st) o) : Snd (E.bd (tellO d st) f) o := fun Q hQ => by
  obtain ⟨x, hx, h2⟩ := tellO_ok d st _ hQ
  cases hx
  exact h Q h2
theorem evStepT_ok (hc : ∀ f args σ, Snd (cm f args σ) (call f args σ)) (h : FH) (cut : Bool) (base : Nat) (o : Oper) (st : St) : Snd (evStepT P h cm cut base o st) (evStep P h call base o st) := by
  unfold evStepT evStep
  exact .tell (evOpT_ok hc _ _ _ _ _ _).map
theorem evOpsT_ok (hc : ∀ f args σ, Snd (cm f args σ) (call f args σ)) (h : FH) (cut : Bool) (base : Nat) (ops : Array Oper) : ∀ (l : List Oper) (st : St) (fl : List Fl), Snd (evOpsT P h cm cut base ops l st fl) (evO P h call base ops l st fl)
  | [], st, fl => .rt
  | o :: r, st, fl => by
    simp only [evOpsT, evO, stepA, andA]
    refine .tell ?_
    rw [Option.bind_assoc]
    refine Snd.op.bd fun b _ => ?_
    split
    · exact (evStepT_ok hc _ _ _ _ _).bd fun s _ => evOpsT_ok hc h cut base ops r _ _
    · simp only [Option.bind_some]
      exact evOpsT_ok hc h cut base ops r _ _
theorem evCT_ok (hc : ∀ f args σ, Snd (cm f args σ) (call f args σ)) {h : FH} {cut : Bool} {base : Nat} {lm pm : LoopM} {loop : Code → St → Option (Ex × St)} (hl : ∀ c st, Snd (lm c st) ((loop c st).map (killX base h c))) (hp : ∀ c st, Snd (pm c st) (evK P h call base loop c st)) : ∀ (c : Code) (st : St), Snd (evCT P h cm cut base lm pm c st) (evK P h call base loop c st)
  | .skip, st => .rt
  | .region id ops draw, st => by
    simp only [evCT, evK, evR, andA]
    refine (evOpsT_ok hc _ _ _ _ _ _ _).bd fun q _ => ?_
    split
    · exact .rt
    · exact .no
  | .seq a b, st => by
    simp only [evCT, evK]
    intro Q hQ
    obtain ⟨q, hq, h2⟩ := evCT_ok hc hl hp a st _ hQ
    rw [hq]
    obtain ⟨ex, s⟩ := q
    cases ex with
    | normal =>
      simp only at h2
      show ∃ x, evK P h call base loop b (joinAt base h b s) = some x ∧ Q x
      cases hn : h.cuts.lookup (firstReg b) with
      | some u => rw [hn] at h2; exact hp b _ Q h2
      | none =>
        rw [hn] at h2
        exact evCT_ok hc hl hp b _ Q h2
    | exit id => exact ⟨_, rfl, h2⟩
    | ret => exact ⟨_, rfl, h2⟩
  | .cond c a b, st => by
    simp only [evCT, evK]
    refine .tell ?_
    split
    · rename_i t ht
      simp only [ifA, ht]
      split
      · exact evCT_ok hc hl hp a st
      · exact evCT_ok hc hl hp b st
    · exact .no
  | .block id c, st => by
    simp only [evCT, evK]
    intro Q hQ
    obtain ⟨q, hq, h2⟩ := evCT_ok hc hl hp c st _ hQ
    rw [hq]
    obtain ⟨ex, s⟩ := q
    cases ex with
    | normal => exact ⟨_, rfl, h2⟩
    | ret => exact ⟨_, rfl, h2⟩
    | exit j =>
      simp only [blockA] at h2 ⊢
      split at h2
      · rename_i hj; rw [if_pos hj]; exact ⟨_, rfl, h2⟩
      · rename_i hj; rw [if_neg hj]; exact ⟨_, rfl, h2⟩
  | .loop c, st => hl c st
  | .exit id, st => .rt
  | .ret, st => .rt
  | .rangeFunc .., st => .no
  | .scope _, st => .no
  | .label _, st => .no
  | .goto _, st => .no
  | .refuse _, st => .no
variable {H : FuncId → FH}
theorem CT.ask_ok {o Q : AV × List Row × List Nat → Prop} : ∀ (l : CT), l.ask o Q → ∃ x, o x ∧ Q x
  | .is r, h => ⟨_, h.1, h.2⟩
  | .by b x y, h => by
    cases b with
    | true => exact CT.ask_ok x h
    | false => exact CT.ask_ok y h
  | .no, h => h.elim
theorem callsM_ok (F : CallT) (f : FuncId) (args : List AV) (σ : List Row) : Snd (callsM P H F f args σ) (Wf P H f args σ) := fun Q hQ => by
  obtain ⟨x, hx, h2⟩ := CT.ask_ok _ hQ
  exact ⟨x, hx, h2⟩
theorem LT.ask_ok {o Q : Ex × St → Prop} : ∀ (l : LT), l.ask o Q → ∃ x, o x ∧ Q x
  | .is ex st, h => ⟨_, h.1, h.2⟩
  | .by b x y, h => by
    cases b with
    | true => exact LT.ask_ok x h
    | false => exact LT.ask_ok y h
  | .no, h => h.elim
theorem loopsM_ok {h : FH} {base : Nat} (L : Nat → St → LT) (c : Code) (st : St) : Snd (loopsM P H h base L c st) ((Lf P H h base c st).map (killX base h c)) := fun Q hQ => by
  obtain ⟨x, hx, h2⟩ := LT.ask_ok _ hQ
  exact ⟨x, hx.go st rfl, h2⟩
theorem partsM_ok {h : FH} {base : Nat} (L : Nat → St → LT) (c : Code) (st : St) : Snd (partsM P H h base L c st) (evK P h (Wf P H) base (Lf P H h base) c st) := fun Q hQ => by
  obtain ⟨x, hx, h2⟩ := LT.ask_ok _ hQ
  exact ⟨x, (evK_eq c st).trans hx.go, h2⟩
/-- What comes next, that begins with this region, in a row of code. -/
def findPart (id : Nat) : Code → Option Code
  | .seq a b => if firstReg b = id then some b else match findPart id a with | some c => some c | none => findPart id b
  | .cond _ a b => match findPart id a with | some c => some c | none => findPart id b
  | .block _ c => findPart id c
  | .loop c => findPart id c
  | _ => none
def partOf (P : Program) (f : FuncId) (id : Nat) : Code :=
  match P.funcs[f]? with
  | some fn => match fn.body with
    | some c => (findPart id c).getD .skip
    | none => .skip
  | none => .skip
/-- The loop whose first region this is. -/
def findLoop (id : Nat) : Code → Option Code
  | .loop c => if firstReg c = id then some c else findLoop id c
  | .seq a b => match findLoop id a with | some c => some c | none => findLoop id b
  | .cond _ a b => match findLoop id a with | some c => some c | none => findLoop id b
  | .block _ c => findLoop id c
  | _ => none
def loopOf (P : Program) (f : FuncId) (id : Nat) : Code :=
  match P.funcs[f]? with
  | some fn => match fn.body with
    | some c => (findLoop id c).getD .skip
    | none => .skip
  | none => .skip
/-- What is wanted of a function's run. -/
def runT (P : Program) (H : FuncId → FH) (F : CallT) (L : Nat → St → LT) (cut : Bool) (f : FuncId) (args : List AV) (sto : List Row) (Q : AV × List Row × List Nat → Prop) : Prop :=
  match (H f).prim with
  | some _ => False
  | none =>
  match P.funcs[f]? with
  | none => False
  | some fn => match fn.body with
    | none => False
    | some c => evCT P (H f) (callsM P H F) cut sto.length (loopsM P H (H f) sto.length L) (partsM P H (H f) sto.length L) c ⟨args ++ List.replicate (fn.ntmps - args.length) .dead, sto ++ List.replicate (H f).ntok .dead, []⟩ fun q => op? (endA P (H f).strong sto.length fn q) Q
theorem runT_ok {F : CallT} {L : Nat → St → LT} {cut : Bool} {f : FuncId} {args : List AV} {sto : List Row} {r : AV × List Row × List Nat} (h : runT P H F L cut f args sto fun q => q = r) : Wf P H f args sto = some r := by
  unfold runT at h
  split at h
  · exact h.elim
  rename_i hp
  split at h
  · exact h.elim
  · rename_i fn hf
    split at h
    · exact h.elim
    · rename_i c hb
      refine Wf_run hp hf hb ?_
      obtain ⟨q, hq, h2⟩ := evCT_ok (fun f args σ => callsM_ok F f args σ) (fun c st => loopsM_ok L c st) (fun c st => partsM_ok L c st) c _ _ h
      rw [hq]
      simp only [andA, Option.bind_some]
      obtain ⟨x, hx, rfl⟩ := Snd.op _ h2
      exact hx
/-- What is wanted of one turn of a loop. -/
def turnT (P : Program) (H : FuncId → FH) (F : CallT) (L : Nat → St → LT) (cut : Bool) (h : FH) (base : Nat) (c : Code) (s : St) (r : Ex × St) : Prop :=
  evCT P h (callsM P H F) cut base (loopsM P H h base L) (partsM P H h base L) c s fun q => match q.1 with
    | .normal => LoopTo P H h base c (killAt base h c q.2) r
    | _ => killX base h c q = r
theorem turnT_ok {F : CallT} {L : Nat → St → LT} {cut : Bool} {h : FH} {base : Nat} {c : Code} {s : St} {r : Ex × St} (ht : turnT P H F L cut h base c s r) : LoopTo P H h base c s r := ⟨fun st hs => by
  unfold turnT at ht
  obtain ⟨q, hq, h2⟩ := evCT_ok (fun f args σ => callsM_ok F f args σ) (fun c st => loopsM_ok L c st) (fun c st => partsM_ok L c st) c _ _ ht
  obtain ⟨ex, s'⟩ := q
  have run : ∀ r', thenA (evK P h (Wf P H) base (Lf P H h base) c (killAt base h c st)) (Lf P H h base c) = some r' → Lf P H h base c st = some r' := fun r' => Lf_run
  rw [hs, hq] at run
  cases ex with
  | normal =>
    obtain ⟨r', h3, h4⟩ := Option.map_eq_some_iff.1 (h2.go s' rfl)
    rw [run r' h3, ← h4]
    rfl
  | exit id => rw [run (.exit id, s') rfl]; exact congrArg some h2
  | ret => rw [run (.ret, s') rfl]; exact congrArg some h2⟩
/-- What is wanted of what comes next. -/
def partT (P : Program) (H : FuncId → FH) (F : CallT) (L : Nat → St → LT) (cut : Bool) (h : FH) (base : Nat) (c : Code) (s : St) (r : Ex × St) : Prop :=
  evCT P h (callsM P H F) cut base (loopsM P H h base L) (partsM P H h base L) c s fun q => q = r
theorem partT_ok {F : CallT} {L : Nat → St → LT} {cut : Bool} {h : FH} {base : Nat} {c : Code} {s : St} {r : Ex × St} (ht : partT P H F L cut h base c s r) : PartTo P H h base c s r := ⟨by
  unfold partT at ht
  obtain ⟨q, hq, h2⟩ := evCT_ok (fun f args σ => callsM_ok F f args σ) (fun c st => loopsM_ok L c st) (fun c st => partsM_ok L c st) c _ _ ht
  rw [← evK_eq, hq, h2]⟩
theorem partK {F : CallT} {L : Nat → St → LT} {cut : Bool} {h : FH} {base : Nat} {c : Code} {s : St} {r : Ex × St} {p : Prop} (ht : partT P H F L cut h base c s r = p) (hp : p) : PartTo P H h base c s r := partT_ok (ht.mpr hp)
/-- By what the kernel works out. -/
theorem viaK {p q : Prop} (h : p = q) (hq : q) : p := h ▸ hq
/-- A call, and a loop, by what was printed. -/
theorem runK {F : CallT} {L : Nat → St → LT} {cut : Bool} {f : FuncId} {args : List AV} {sto : List Row} {r : AV × List Row × List Nat} {p : Prop} (ht : (runT P H F L cut f args sto fun q => q = r) = p) (h : p) : Wf P H f args sto = some r := runT_ok (ht.mpr h)
theorem turnK {F : CallT} {L : Nat → St → LT} {cut : Bool} {h : FH} {base : Nat} {c : Code} {s : St} {r : Ex × St} {p : Prop} (ht : turnT P H F L cut h base c s r = p) (hp : p) : LoopTo P H h base c s r := turnT_ok (ht.mpr hp)
end
end Go.Proofs.YtabdcfcnngnnoaaDoor.E
