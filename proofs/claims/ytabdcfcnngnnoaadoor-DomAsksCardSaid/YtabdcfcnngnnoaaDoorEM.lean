/- Maps of the call's own: what each operation does is what the evaluator says. -/
import Derived.Test.YtabdcfcnngnnoaaDoorE10x
import Derived.Maps.Keyed
import Derived.DeepKeys4
import Derived.Carry
set_option linter.unusedVariables false
set_option linter.unusedSimpArgs false
namespace Go.Proofs.YtabdcfcnngnnoaaDoor.E
open Go
theorem goodKey_len : ∀ {qs : List IntKind} {x : List Int}, goodKey qs x = true → x.length = qs.length
  | [], [], _ => rfl
  | q :: qs, a :: r, h => by
    simp only [goodKey, Bool.and_eq_true] at h
    simp [goodKey_len h.2]
  | [], _ :: _, h => by simp [goodKey] at h
  | _ :: _, [], h => by simp [goodKey] at h
theorem zip_inj : ∀ {qs : List IntKind} {x y : List Int}, x.length = qs.length → y.length = qs.length → (qs.zip x).map (fun p => Value.int p.1 p.2) = (qs.zip y).map (fun p => Value.int p.1 p.2) → x = y
  | [], [], [], _, _, _ => rfl
  | q :: qs, a :: x, b :: y, hx, hy, h => by
    simp only [List.zip_cons_cons, List.map_cons, List.cons.injEq, Value.int.injEq, true_and] at h
    rw [h.1, zip_inj (by simpa using hx) (by simpa using hy) h.2]
  | [], _ :: _, _, hx, _, _ => by simp at hx
  | [], [], _ :: _, _, hy, _ => by simp at hy
  | _ :: _, [], _, hx, _, _ => by simp at hx
  | _ :: _, _ :: _, [], _, hy, _ => by simp at hy
theorem encKey_inj {kd : Bool × List IntKind} (hk : kd.1 = true ∨ ∃ q, kd.2 = [q]) {x y : List Int} (hx : goodKey kd.2 x = true) (hy : goodKey kd.2 y = true) (h : encKey kd x = encKey kd y) : x = y := by
  obtain ⟨b, qs⟩ := kd
  have h1 := goodKey_len hx
  have h2 := goodKey_len hy
  unfold encKey at h
  cases b with
  | true =>
    simp only [if_true, Value.agg.injEq] at h
    exact zip_inj h1 h2 (by simpa using congrArg Array.toList h)
  | false =>
    obtain ⟨q, rfl⟩ : ∃ q, qs = [q] := by simpa using hk
    match x, y, h1, h2 with
    | [a], [c], _, _ => simp at h; rw [h]
/-- Keys, as the machine goes by them. -/
def MapsOk (P : Program) : Prop := ∀ k kd, keyKinds P k = some kd → (kd.1 = true ∨ ∃ q, kd.2 = [q]) ∧ Maps.Keyed P k ∧ ∀ x, goodKey kd.2 x = true → ∃ l, keyOf P k (encKey kd x) = some l
theorem key2_ok {P : Program} {k : TypeId} {f0 f1 : Field} {q0 q1 : IntKind} (hu : P.underlying k = some (.struct #[f0, f1])) (hkt : P.keyType k = true) (hsz : 1 < P.types.size) (hc : P.cellsOf k = 2) (h0 : P.cellsOf f0.type = 1) (h1 : P.cellsOf f1.type = 1)
    (n0 : f0.name ≠ "_") (n1 : f1.name ≠ "_") (o0 : f0.offset = 0) (o1 : f1.offset = 1) (he0 : P.underlying f0.type = some (.int q0)) (he1 : P.underlying f1.type = some (.int q1)) {a b : Int} (wa : (Lit.int q0 a).wf = true) (wb : (Lit.int q1 b).wf = true) :
    ∃ l, keyOf P k (.agg #[.int q0 a, .int q1 b]) = some l := by
  obtain ⟨n, hn⟩ : ∃ n, P.types.size = n + 2 := ⟨P.types.size - 2, by omega⟩
  refine ⟨.string (keyBytes [.int q0 a, .int q1 b]), ?_⟩
  unfold keyOf
  simp only [hu]
  rw [if_pos (by simp [hkt, Value.formed, hu, hc]), hn]
  unfold Program.keyLits
  simp only [hu, Value.cells]
  rw [if_pos ⟨by rw [hc]; rfl, by simp [n0, n1]⟩]
  simp [List.mapM_cons, o0, o1, h0, h1, Program.keyLits, he0, he1, wa, wb]
theorem mapsOk_of {P : Program} (hl : laidOutB P = true) : MapsOk P := fun k kd h => by
  unfold keyKinds at h
  split at h
  · rename_i q hu
    cases h
    refine ⟨.inr ⟨q, rfl⟩, Maps.int_keyed hu, fun x hx => ?_⟩
    match x, goodKey_len hx with
    | [a], _ =>
      have hw : (Lit.int q a).wf = true := by simpa [goodKey, Lit.wf] using hx
      exact ⟨.int q a, by simp [encKey, keyOf, hu, mapKey, hw]⟩
  · rename_i fs hu
    split at h
    · rename_i f0 f1 hfs
      split at h
      · rename_i q0 q1 he0 he1
        split at h
        · rename_i hc
          cases h
          obtain ⟨c1, c2, c3, c4, c5, c6, c7, c8, c9, c10, c11⟩ := hc
          have hfs' : fs = #[f0, f1] := Array.ext' (by simpa using hfs)
          subst hfs'
          refine ⟨.inl rfl, Maps.Keyed.of_law (deep_law_laid hl (m := 2) (by omega) c1 c3 (by rw [hu])), fun x hx => ?_⟩
          match x, goodKey_len hx with
          | [a, b], _ =>
            have hw : (Lit.int q0 a).wf = true ∧ (Lit.int q1 b).wf = true := by simpa [goodKey, Lit.wf] using hx
            simpa [encKey] using key2_ok hu c4 c2 c5 c6 c7 c8 c9 c10 c11 he0 he1 hw.1 hw.2
        · cases h
      · cases h
    · cases h
  · cases h
/-! #### Lists of keys -/
theorem posL_cons (key : List Int) (p : List Int × Value) (r : List (List Int × Value)) : posL key (p :: r) = if p.1 = key then some 0 else (posL key r).map (· + 1) := rfl
theorem posL_none {key : List Int} : ∀ {L : List (List Int × Value)}, (∀ p ∈ L, p.1 ≠ key) → posL key L = none ∧ valL key L = none ∧ (∀ v, updL key v L = L ++ [(key, v)]) ∧ ∀ z, entL key z L = L ++ [(key, z)]
  | [], _ => ⟨rfl, rfl, fun _ => rfl, fun _ => rfl⟩
  | p :: r, h => by
    have h1 : p.1 ≠ key := h p (by simp)
    obtain ⟨a, b, c, d⟩ := posL_none (L := r) (fun q hq => h q (by simp [hq]))
    exact ⟨by simp [posL, h1, a], by simp [valL, h1, b], fun v => by simp [updL, h1, c], fun z => by simp [entL, h1, d]⟩
theorem posL_some {key : List Int} : ∀ {L : List (List Int × Value)} {j : Nat} {v : Value}, (L.map (·.1)).Nodup → L[j]? = some (key, v) →
    posL key L = some j ∧ valL key L = some v ∧ (∀ u, updL key u L = L.set j (key, u)) ∧ ∀ z, entL key z L = L
  | [], j, v, _, h => by simp at h
  | p :: r, 0, v, _, h => by
    simp at h
    subst h
    exact ⟨by simp [posL], by simp [valL], fun u => by simp [updL], fun z => by simp [entL]⟩
  | p :: r, j + 1, v, hn, h => by
    simp only [List.getElem?_cons_succ] at h
    simp only [List.map_cons, List.nodup_cons] at hn
    have h1 : p.1 ≠ key := fun e => hn.1 (by rw [e]; exact List.mem_map.2 ⟨_, List.mem_of_getElem? h, rfl⟩)
    obtain ⟨a, b, c, d⟩ := posL_some hn.2 h
    exact ⟨by simp [posL, h1, a], by simp [valL, h1, b], fun u => by simp [updL, h1, c], fun z => by simp [entL, h1, d]⟩
theorem entsOf_get (kd : Bool × List IntKind) (L : List (List Int × Value)) (i : Nat) : (entsOf kd L)[i]? = (L[i]?).map fun p => ⟨encKey kd p.1, p.2, i⟩ := by
  simp only [entsOf, List.getElem?_toArray, List.getElem?_map, List.getElem?_zipIdx, Option.map_map]
  cases L[i]? <;> simp
theorem entsOf_size (kd : Bool × List IntKind) (L : List (List Int × Value)) : (entsOf kd L).size = L.length := by simp [entsOf]
theorem entsOf_push (kd : Bool × List IntKind) (L : List (List Int × Value)) (p : List Int × Value) : (entsOf kd L).push ⟨encKey kd p.1, p.2, L.length⟩ = entsOf kd (L ++ [p]) := by
  refine Array.ext_getElem? fun i => ?_
  rw [Array.getElem?_push, entsOf_get, entsOf_get, entsOf_size, List.getElem?_append]
  by_cases h : i = L.length
  · subst h; simp
  · rw [if_neg h]
    by_cases h2 : i < L.length
    · rw [if_pos h2]
    · rw [if_neg h2, List.getElem?_eq_none (by omega)]
      have : i - L.length ≠ 0 := by omega
      simp [this]
theorem entsOf_modify (kd : Bool × List IntKind) (L : List (List Int × Value)) (j : Nat) (p q : List Int × Value) (f : MapEntry → MapEntry) (hj : L[j]? = some p) (hf : f ⟨encKey kd p.1, p.2, j⟩ = ⟨encKey kd q.1, q.2, j⟩) :
    (entsOf kd L).modify j f = entsOf kd (L.set j q) := by
  refine Array.ext_getElem? fun i => ?_
  rw [Array.getElem?_modify, entsOf_get, entsOf_get, List.getElem?_set]
  by_cases h : j = i
  · subst h
    have hlt := (List.getElem?_eq_some_iff.1 hj).1
    have e : L[j] = p := by rw [List.getElem?_eq_getElem hlt] at hj; exact Option.some.inj hj
    simp [hlt, e, hf]
  · rw [if_neg h, if_neg h]
theorem set_self' {α : Type} {L : List α} {j : Nat} {p : α} (h : L[j]? = some p) : L.set j p = L := by
  refine List.ext_getElem? fun i => ?_
  rw [List.getElem?_set]
  by_cases e : j = i
  · subst e; rw [if_pos rfl, if_pos (List.getElem?_eq_some_iff.1 h).1, h]
  · rw [if_neg e]
section
variable {P : Program} {o : Oper} {a : Act} {w : World} {ρ : Gh} {σ : List Row}
/-- The machine finds what stands there. -/
theorem find_ok {k : TypeId} {kd : Bool × List IntKind} {L : List (List Int × Value)} {key : List Int} (hM : MapsOk P) (hkk : keyKinds P k = some kd) (hn : (L.map (·.1)).Nodup) (hg : ∀ p ∈ L, goodKey kd.2 p.1 = true) (hkey : goodKey kd.2 key = true) :
    ((Instr.findKey k (encKey kd key) (entsOf kd L).toList).run P w = .ok none w ∧ ∀ p ∈ L, p.1 ≠ key) ∨ ∃ j v, (Instr.findKey k (encKey kd key) (entsOf kd L).toList).run P w = .ok (some (j, v)) w ∧ L[j]? = some (key, v) := by
  obtain ⟨h1, K, h2⟩ := hM k kd hkk
  obtain ⟨l, hl⟩ := h2 key hkey
  have hmem : ∀ e ∈ (entsOf kd L).toList, ∃ p ∈ L, e.key = encKey kd p.1 := fun e he => by
    obtain ⟨i, hi⟩ := List.getElem?_of_mem he
    rw [Array.getElem?_toList, entsOf_get] at hi
    obtain ⟨p, hp, rfl⟩ := Option.map_eq_some_iff.1 hi
    exact ⟨p, List.mem_of_getElem? hp, rfl⟩
  rcases K.find w hl (entsOf kd L).toList (fun e he => by
    obtain ⟨p, hp, e1⟩ := hmem e he
    rw [e1]
    exact h2 _ (hg p hp)) with ⟨h3, h4⟩ | ⟨j, e, h3, h4, h5⟩
  · refine .inl ⟨h3, fun p hp e => ?_⟩
    obtain ⟨i, hi⟩ := List.getElem?_of_mem hp
    have h6 : (entsOf kd L)[i]? = some ⟨encKey kd p.1, p.2, i⟩ := by rw [entsOf_get, hi]; rfl
    exact h4 _ (List.mem_of_getElem? (i := i) (by rw [Array.getElem?_toList]; exact h6)) (by rw [e])
  · rw [Array.getElem?_toList, entsOf_get] at h4
    obtain ⟨p, hp, rfl⟩ := Option.map_eq_some_iff.1 h4
    have := encKey_inj h1 (hg p (List.mem_of_getElem? hp)) hkey h5
    refine .inr ⟨j, p.2, h3, ?_⟩
    rw [hp, ← this]
theorem keyA_ok {kd : Bool × List IntKind} {x : AV} {key : List Int} {y : Value} (hk : kd.1 = true ∨ ∃ q, kd.2 = [q]) (h : keyA kd x = some key) (hx : RV ρ w x y) : y = encKey kd key := by
  obtain ⟨b, qs⟩ := kd
  have go : ∀ (qs : List IntKind) (cells : List AV) (key : List Int) (vs : List Value), intsA qs cells = some key → RVs ρ w cells vs → vs = (qs.zip key).map fun p => Value.int p.1 p.2 := by
    intro qs
    induction qs with
    | nil =>
      intro cells key vs h hv
      cases cells with
      | nil => cases h; have := hv.1; exact List.eq_nil_of_length_eq_zero (by simpa using this.symm)
      | cons c r => simp [intsA] at h
    | cons q qs ih =>
      intro cells key vs h hv
      cases cells with
      | nil => simp [intsA] at h
      | cons c r =>
        unfold intsA at h
        split at h
        · rename_i h1 h2; cases h2
        · rename_i q' qs' q'' a r' h1 h2
          cases h1
          cases h2
          split at h
          · rename_i hq
            subst hq
            obtain ⟨ks, hks, rfl⟩ := Option.map_eq_some_iff.1 h
            obtain ⟨v, vr, rfl, hv1, hv2⟩ := hv.head
            cases hv1
            simp only [List.zip_cons_cons, List.map_cons]
            rw [ih r ks vr hks hv2]
          · cases h
        · cases h
  unfold keyA at h
  cases b with
  | true =>
    simp only [if_true] at h
    split at h
    · rename_i cells
      cases hx with
      | agg l vs hl hsub =>
        have := go qs cells key vs.toList h ⟨by simpa using hl, fun j x y h1 h2 => hsub j x y h1 (by simpa using h2)⟩
        simp only [encKey, if_true, Value.agg.injEq]
        exact Array.ext' (by simpa using this)
    · cases h
  | false =>
    obtain ⟨q, rfl⟩ : ∃ q, qs = [q] := by simpa using hk
    simp only [Bool.false_eq_true, if_false] at h
    have := go [q] [x] key [y] h (RVs.cons' hx RVs.nil')
    cases key with
    | nil => simp at this
    | cons a r =>
      simp at this
      subst this
      have hr : r = [] := by
        unfold intsA at h
        split at h
        · rename_i h1 h2; cases h1
        · rename_i q' qs' q'' a' r' h1 h2
          cases h1
          split at h
          · obtain ⟨ks, hks, he⟩ := Option.map_eq_some_iff.1 h
            cases h2
            cases hks
            cases he
            rfl
          · cases h
        · cases h
      subst hr
      simp [encKey]
/-- What is known at a map. -/
theorem atMap_ok {t : TypeId} {m x : AV} {mv xv : Value} {q : Nat × (Bool × List IntKind) × List (List Int × Value) × List Int × Value} (hM : MapsOk P) (hS : StoOk ρ w σ) (h : atMap P t σ m x = some q) (hm : RV ρ w m mv) (hx : RV ρ w x xv) :
    ∃ k e b, P.underlying t = some (.map k e) ∧ keyKinds P k = some q.2.1 ∧ (∀ u, (zeroValue e).run P u = .ok q.2.2.2.2 u) ∧ mv = .map (some b) ∧ xv = encKey q.2.1 q.2.2.2.1 ∧ σ[q.1]? = some (.map q.2.1 q.2.2.1) ∧ (∃ kb, ρ q.1 = some kb ∧ kb.b = b) ∧
      (q.2.2.1.map (·.1)).Nodup ∧ (∀ p ∈ q.2.2.1, goodKey q.2.1.2 p.1 = true) ∧ w.heap[b]? = some (.map (entsOf q.2.1 q.2.2.1) q.2.2.1.length) := by
  unfold atMap at h
  obtain ⟨r, hr, h⟩ := Option.bind_eq_some_iff.1 h
  unfold mapTy at hr
  split at hr
  · rename_i k e hu
    obtain ⟨kd, hkd, hr⟩ := Option.bind_eq_some_iff.1 hr
    obtain ⟨zv, hzv, hr⟩ := Option.bind_eq_some_iff.1 hr
    obtain ⟨i, hi, hzi⟩ := Option.bind_eq_some_iff.1 hzv
    obtain ⟨z', hz', rfl⟩ := Option.map_eq_some_iff.1 hr
    have hzz : z' = zv := by
      unfold elemV at hz'
      split at hz'
      · cases hz'
      · cases hz'
      · rename_i he; cases hz'; cases he; rfl
      · cases hz'
    subst hzz
    cases m with
    | mp kt =>
      simp only at h
      split at h
      · rename_i kd' L hs
        split at h
        · rename_i hkd'
          obtain ⟨key, hkey, rfl⟩ := Option.map_eq_some_iff.1 h
          subst hkd'
          cases hm with
          | mp _ kb ht =>
          obtain ⟨kb', hkb, h1, h2, h3⟩ := hS.row kt _ hs
          rw [ht] at hkb
          cases hkb
          exact ⟨k, e, kb.b, hu, hkd, fun u => by simp [zeroValue, typeInfo, hi, hzi], rfl, keyA_ok (hM k _ hkd).1 hkey hx, hs, ⟨kb, ht, rfl⟩, h1, h2, h3⟩
        · cases h
      · cases h
    | _ => cases h
  · cases hr
theorem mapRow_put {t : Nat} {kb : Blk} {kd : Bool × List IntKind} {L L' : List (List Int × Value)} (hS : StoOk ρ w σ) (hs : σ[t]? = some (.map kd L)) (ht : ρ t = some kb) {es : Array MapEntry} {c : Nat} (hb : w.heap[kb.b]? = some (.map es c))
    (h1 : (L'.map (·.1)).Nodup) (h2 : ∀ p ∈ L', goodKey kd.2 p.1 = true) :
    StoOk ρ { w with heap := w.heap.setIfInBounds kb.b (.map (entsOf kd L') L'.length) } (σ.set t (.map kd L')) ∧ Ext ρ w ρ { w with heap := w.heap.setIfInBounds kb.b (.map (entsOf kd L') L'.length) } [] := by
  have hlt : kb.b < w.heap.size := hS.blk t kb ht
  have other : ∀ b, b ≠ kb.b → (w.heap.setIfInBounds kb.b (.map (entsOf kd L') L'.length))[b]? = w.heap[b]? := fun b hb => by
    rw [Array.getElem?_setIfInBounds, if_neg (fun e => hb e.symm)]
  have hx : Ext ρ w ρ { w with heap := w.heap.setIfInBounds kb.b (.map (entsOf kd L') L'.length) } [] :=
    ⟨rfl, rfl, rfl, by simp, fun b _ hno => other b (fun e => hno ⟨t, kb, ht, e.symm⟩), fun b h => .inl h, rfl, fun _ _ => rfl⟩
  refine ⟨?_, hx⟩
  have := hS.put (mv := []) hx t (.map kd L') ⟨kb, ht, h1, h2, by simp [Array.getElem?_setIfInBounds, hlt]⟩ (fun u k hu => hS.len u k hu) hS.inj (fun u k hu => ⟨by simpa using hS.blk u k hu, hS.apart u k hu⟩) (fun u k hne _ hu => other k.b (fun e => hne (hS.inj u t k kb hu ht e)))
  simpa [E.giveUp] using this
theorem nodup_set {L : List (List Int × Value)} {j : Nat} {key : List Int} {v u : Value} (hn : (L.map (·.1)).Nodup) (hj : L[j]? = some (key, v)) : ((L.set j (key, u)).map (·.1)).Nodup := by
  have : (L.set j (key, u)).map (·.1) = L.map (·.1) := by
    rw [List.map_set]
    exact set_self' (by rw [List.getElem?_map, hj]; rfl)
  rw [this]; exact hn
theorem good_set {qs : List IntKind} {L : List (List Int × Value)} {j : Nat} {key : List Int} {v u : Value} (hg : ∀ p ∈ L, goodKey qs p.1 = true) (hj : L[j]? = some (key, v)) : ∀ p ∈ L.set j (key, u), goodKey qs p.1 = true := fun p hp => by
  rcases List.mem_or_eq_of_mem_set hp with h | rfl
  · exact hg p h
  · exact hg (key, v) (List.mem_of_getElem? hj)
theorem nodup_push {L : List (List Int × Value)} {key : List Int} {v : Value} (hn : (L.map (·.1)).Nodup) (hne : ∀ p ∈ L, p.1 ≠ key) : ((L ++ [(key, v)]).map (·.1)).Nodup := by
  rw [List.map_append, List.nodup_append]
  refine ⟨hn, by simp, fun x hx y hy e => ?_⟩
  obtain ⟨p, hp, rfl⟩ := List.mem_map.1 hx
  simp at hy
  exact hne p hp (e.trans hy)
theorem good_push {qs : List IntKind} {L : List (List Int × Value)} {key : List Int} {v : Value} (hg : ∀ p ∈ L, goodKey qs p.1 = true) (hk : goodKey qs key = true) : ∀ p ∈ L ++ [(key, v)], goodKey qs p.1 = true := fun p hp => by
  rcases List.mem_append.1 hp with h | h
  · exact hg p h
  · simp at h; subst h; exact hk
theorem lookupA_ok {t : TypeId} {m x : AV} {mv xv : Value} {ok : Bool} {r : AV} (hM : MapsOk P) (hS : StoOk ρ w σ) (h : lookupA P t σ m x ok = some r) (hm : RV ρ w m mv) (hx : RV ρ w x xv) :
    ∃ v, (Instr.lookup t mv xv ok).run P w = .ok v w ∧ RV ρ w r v := by
  unfold lookupA at h
  obtain ⟨q, hq, h⟩ := Option.bind_eq_some_iff.1 h
  split at h
  · rename_i hgk
    cases h
    obtain ⟨k, e, b, hu, hkk, hz, rfl, rfl, hs, _, h1, h2, h3⟩ := atMap_ok hM hS hq hm hx
    obtain ⟨hsh, K, hkey⟩ := hM k _ hkk
    obtain ⟨l, hl⟩ := hkey _ hgk
    have res : ∀ v (f : Bool), RV ρ w (if ok then .tup [.v v, .v (.bool f)] else .v v) (if ok then .tuple #[v, .bool f] else v) := fun v f => by
      cases ok with
      | true => exact .tup _ _ rfl (fun j x y h1 h2 => by
          match j with
          | 0 => simp at h1 h2; subst h1; subst h2; exact .v _
          | 1 => simp at h1 h2; subst h1; subst h2; exact .v _
          | j + 2 => simp at h1)
      | false => exact .v _
    rcases find_ok (w := w) hM hkk h1 h2 hgk with ⟨h4, h5⟩ | ⟨j, v, h4, h5⟩
    · obtain ⟨_, e2, _⟩ := posL_none h5
      rw [e2]
      refine ⟨_, ?_, res q.2.2.2.2 false⟩
      simp [Instr.lookup, run_underlying hu, MapKept.run_getObj_map h3, K.check w _ hl, h4, hz, Result.andThen]
    · obtain ⟨_, e2, _⟩ := posL_some h1 h5
      rw [e2]
      refine ⟨_, ?_, res v true⟩
      simp [Instr.lookup, run_underlying hu, MapKept.run_getObj_map h3, K.check w _ hl, h4, Result.andThen]
  · cases h
theorem elemV_ok {x : AV} {v y : Value} (h : elemV x = some v) (hx : RV ρ w x y) : y = v := by
  unfold elemV at h
  split at h
  · cases h
  · cases h
  · cases h; cases hx; rfl
  · cases h
theorem mapUpdateA_ok {t : TypeId} {m x v : AV} {mv xv vv : Value} {out : Out} (hM : MapsOk P) (hS : StoOk ρ w σ) (h : mapUpdateA P t σ m x v = some out) (hm : RV ρ w m mv) (hx : RV ρ w x xv) (hv : RV ρ w v vv) :
    ∃ w', (Instr.mapUpdate t mv xv vv).run P w = .ok () w' ∧ Post ρ w out undef w' := by
  unfold mapUpdateA at h
  obtain ⟨q, hq, h⟩ := Option.bind_eq_some_iff.1 h
  obtain ⟨u, hu', h⟩ := Option.bind_eq_some_iff.1 h
  split at h
  · rename_i hgk
    cases h
    obtain rfl := elemV_ok hu' hv
    obtain ⟨k, e, b, hu, hkk, hz, rfl, rfl, hs, ⟨kb, ht, rfl⟩, h1, h2, h3⟩ := atMap_ok hM hS hq hm hx
    obtain ⟨hsh, K, hkey⟩ := hM k _ hkk
    obtain ⟨l, hl⟩ := hkey _ hgk
    rcases find_ok (w := w) hM hkk h1 h2 hgk with ⟨h4, h5⟩ | ⟨j, v0, h4, h5⟩
    · obtain ⟨_, _, e2, _⟩ := posL_none h5
      rw [e2]
      obtain ⟨g1, g2⟩ := mapRow_put hS hs ht h3 (nodup_push (v := vv) h1 h5) (good_push h2 hgk)
      refine ⟨_, ?_, ρ, .dead _, g1, g2⟩
      simp [Instr.mapUpdate, run_underlying hu, MapKept.run_getObj_map h3, K.check w _ hl, h4, MapKept.run_setObj_map _ h3, Result.andThen, ← entsOf_push]
    · obtain ⟨_, _, e2, _⟩ := posL_some h1 h5
      rw [e2]
      obtain ⟨g1, g2⟩ := mapRow_put hS hs ht h3 (nodup_set (u := vv) h1 h5) (good_set h2 h5)
      refine ⟨_, ?_, ρ, .dead _, g1, g2⟩
      have hget : (entsOf q.2.1 q.2.2.1)[j]? = some ⟨encKey q.2.1 q.2.2.2.1, v0, j⟩ := by rw [entsOf_get, h5]; rfl
      have hmod := entsOf_modify q.2.1 q.2.2.1 j (q.2.2.2.1, v0) (q.2.2.2.1, vv) (fun e => { e with key := encKey q.2.1 q.2.2.2.1, val := vv }) h5 rfl
      simp [Instr.mapUpdate, run_underlying hu, MapKept.run_getObj_map h3, K.check w _ hl, h4, MapKept.run_setObj_map _ h3, Result.andThen, hget, K.stays w hl, hmod]
  · cases h
theorem mapEntryA_ok {t : TypeId} {m x : AV} {mv xv : Value} {out : Out} (hM : MapsOk P) (hS : StoOk ρ w σ) (h : mapEntryA P t σ m x = some out) (hm : RV ρ w m mv) (hx : RV ρ w x xv) :
    ∃ v w', (Instr.mapEntry t mv xv).run P w = .ok v w' ∧ Post ρ w out v w' := by
  unfold mapEntryA at h
  obtain ⟨q, hq, h⟩ := Option.bind_eq_some_iff.1 h
  split at h
  · rename_i hgk
    cases h
    obtain ⟨k, e, b, hu, hkk, hz, rfl, rfl, hs, ⟨kb, ht, rfl⟩, h1, h2, h3⟩ := atMap_ok hM hS hq hm hx
    obtain ⟨hsh, K, hkey⟩ := hM k _ hkk
    obtain ⟨l, hl⟩ := hkey _ hgk
    have res : ∀ w' v (n : Nat), RV ρ w' (.tup [.v v, goI (n : Int)]) (.tuple #[v, goInt n]) := fun w' v n => .tup _ _ rfl (fun j x y h1 h2 => by
      match j with
      | 0 => simp at h1 h2; subst h1; subst h2; exact .v _
      | 1 => simp [goI] at h1 h2; subst h1; subst h2; exact .v _
      | j + 2 => simp at h1)
    rcases find_ok (w := w) hM hkk h1 h2 hgk with ⟨h4, h5⟩ | ⟨j, v0, h4, h5⟩
    · obtain ⟨e0, e1, _, e2⟩ := posL_none h5
      rw [e0, e1, e2]
      obtain ⟨g1, g2⟩ := mapRow_put hS hs ht h3 (nodup_push (v := q.2.2.2.2) h1 h5) (good_push h2 hgk)
      refine ⟨_, _, ?_, ρ, res _ q.2.2.2.2 q.2.2.1.length, g1, g2⟩
      simp [Instr.mapEntry, run_underlying hu, MapKept.run_getObj_map h3, K.check w _ hl, h4, hz, MapKept.run_setObj_map _ h3, Result.andThen, ← entsOf_push]
    · obtain ⟨e0, e1, _, e2⟩ := posL_some h1 h5
      rw [e0, e1, e2]
      obtain ⟨g1, g2⟩ := mapRow_put hS hs ht h3 h1 h2
      refine ⟨_, _, ?_, ρ, res _ v0 j, g1, g2⟩
      have hget : (entsOf q.2.1 q.2.2.1)[j]? = some ⟨encKey q.2.1 q.2.2.2.1, v0, j⟩ := by rw [entsOf_get, h5]; rfl
      have hmod := entsOf_modify q.2.1 q.2.2.1 j (q.2.2.2.1, v0) (q.2.2.2.1, v0) (fun e => { e with key := encKey q.2.1 q.2.2.2.1 }) h5 rfl
      rw [set_self' h5] at hmod
      simp [Instr.mapEntry, run_underlying hu, MapKept.run_getObj_map h3, K.check w _ hl, h4, MapKept.run_setObj_map _ h3, Result.andThen, hget, K.stays w hl, hmod]
  · cases h
theorem findIdx_ent (kd : Bool × List IntKind) (L : List (List Int × Value)) (j : Nat) (hj : j < L.length) : (entsOf kd L).findIdx? (fun e => ((e.born : Nat) : Int) == (j : Int)) = some j := by
  rw [Array.findIdx?_eq_some_iff_getElem]
  have hs : j < (entsOf kd L).size := by rw [entsOf_size]; exact hj
  have born : ∀ i (hi : i < (entsOf kd L).size), (entsOf kd L)[i].born = i := fun i hi => by
    have := entsOf_get kd L i
    rw [Array.getElem?_eq_getElem hi, List.getElem?_eq_getElem (by rw [entsOf_size] at hi; exact hi)] at this
    simp only [Option.map_some, Option.some.injEq] at this
    rw [this]
  refine ⟨hs, by rw [born j hs]; simp, fun i hi => ?_⟩
  rw [born i (by omega)]
  simp
  omega
theorem entryStoreA_ok {t : TypeId} {m s v : AV} {mv sv vv : Value} {out : Out} (hS : StoOk ρ w σ) (h : entryStoreA σ m s v = some out) (hm : RV ρ w m mv) (hs : RV ρ w s sv) (hv : RV ρ w v vv) :
    ∃ w', (Instr.entryStore t mv sv vv).run P w = .ok () w' ∧ Post ρ w out undef w' := by
  unfold entryStoreA at h
  split at h
  · rename_i k n
    split at h
    · rename_i kd L hk
      obtain ⟨u, hu, h⟩ := Option.bind_eq_some_iff.1 h
      split at h
      · rename_i hn
        cases h
        obtain rfl := elemV_ok hu hv
        cases hm with
        | mp _ kb ht =>
        cases hs
        obtain ⟨kb', hkb, h1, h2, h3⟩ := hS.row k _ hk
        rw [ht] at hkb
        cases hkb
        obtain ⟨j, rfl⟩ : ∃ j : Nat, n = (j : Int) := ⟨n.toNat, by omega⟩
        have hj : j < L.length := by simpa using hn.2
        have hp : L[j]? = some (L[j].1, L[j].2) := List.getElem?_eq_getElem hj
        have e1 : setL j vv L = L.set j (L[j].1, vv) := by
          unfold setL
          refine List.ext_getElem? fun i => ?_
          rw [List.getElem?_modify, List.getElem?_set]
          by_cases e : j = i
          · subst e; simp [hj]
          · simp [e]
        have hnod : ((setL j vv L).map (·.1)).Nodup := by rw [e1]; exact nodup_set h1 hp
        have hgood : ∀ p ∈ setL j vv L, goodKey kd.2 p.1 = true := by rw [e1]; exact good_set h2 hp
        obtain ⟨g1, g2⟩ := mapRow_put hS hk ht h3 hnod hgood
        refine ⟨_, ?_, ρ, .dead _, g1, g2⟩
        have hmod := entsOf_modify kd L j (L[j].1, L[j].2) (L[j].1, vv) (fun e => { e with val := vv }) hp rfl
        have hf := findIdx_ent kd L j hj
        simp [Instr.entryStore, MapKept.run_getObj_map h3, asInt, asIntOf, hf, MapKept.run_setObj_map _ h3, Result.andThen, hmod, e1]
      · cases h
    · cases h
  · cases h
theorem makeMapA_ok {base : Nat} {own : List Nat} {t : TypeId} {out : Out} (hS : StoOk ρ w σ) (h : makeMapA P base own t σ = some out) :
    ∃ v w', (Instr.makeMap t none).run P w = .ok v w' ∧ Post ρ w out v w' := by
  unfold makeMapA at h
  split at h
  · rename_i k
    split at h
    · rename_i hk
      obtain ⟨q, hq, rfl⟩ := Option.map_eq_some_iff.1 h
      refine ⟨_, _, (by rfl : (Instr.makeMap t none).run P w = .ok (.map (some w.heap.size)) (w.alloc (.map #[] 0))), upd ρ (base + k) ⟨w.heap.size, 0, 0, 0, 0⟩, ?_, hS.allocUpd _ _ _ rfl hk _ ⟨_, rfl, by simp, by simp, ?_⟩, Ext.allocUpd ρ w _ _ _ rfl⟩
      · exact RV.mp (base + k) ⟨w.heap.size, 0, 0, 0, 0⟩ (by rw [upd_at, if_pos rfl])
      · rw [alloc_new]; rfl
    · cases h
  · cases h
end
end Go.Proofs.YtabdcfcnngnnoaaDoor.E
