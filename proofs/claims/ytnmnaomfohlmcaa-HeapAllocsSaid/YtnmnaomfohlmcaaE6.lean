/- What each operation does is what the evaluator says: equality, slices, structs that are built. -/
import Derived.Test.YtnmnaomfohlmcaaE5
import Derived.Laws.StructEq
set_option linter.unusedVariables false
set_option linter.unusedSimpArgs false
namespace Go.Proofs.Ytnmnaomfohlmcaa.E
open Go
section
variable {P : Program} {o : Oper} {a : Act} {w : World} {ρ : Gh} {σ : List Row}

theorem eqA_ok : ∀ (n d : Nat) (t : TypeId) (xs ys : List AV) (b : Bool) (X Y : Value), eqA P n t xs ys = some b → n ≤ d → RVs ρ w xs X.cells.toList → RVs ρ w ys Y.cells.toList →
    ((∃ fs, P.underlying t = some (.struct fs)) → (∃ us, X = .agg us) ∧ ∃ us, Y = .agg us) → ((¬ ∃ fs, P.underlying t = some (.struct fs)) → X.cells = #[X] ∧ Y.cells = #[Y]) → (Op.equalIn d t X Y).run P w = .ok b w
  | 0, _, _, _, _, _, _, _, h, _, _, _, _, _ => by simp [eqA] at h
  | n + 1, d, t, xs, ys, b, X, Y, h, hd, hX, hY, hs, h1 => by
    obtain ⟨d, rfl⟩ : ∃ d', d = d' + 1 := ⟨d - 1, by omega⟩
    have one : ∀ {x : Value} {U : Value}, RVs ρ w [AV.v x] U.cells.toList → U.cells = #[U] → U = x := fun {x U} hU hc => by
      rw [hc] at hU
      have := hU.2 0 (.v x) U rfl rfl
      cases this
      rfl
    simp only [eqA] at h
    split at h
    · rename_i k hu
      obtain ⟨e1, e2⟩ := h1 (by rintro ⟨fs, hf⟩; rw [hu] at hf; cases hf)
      split at h
      · rename_i k1 a1 k2 a2
        split at h
        · rename_i hk
          subst hk
          cases h
          rw [one hX e1, one hY e2]
          exact run_equalIn_int w d t k1 k a1 a2 hu
        · cases h
      · cases h
    · rename_i hu
      obtain ⟨e1, e2⟩ := h1 (by rintro ⟨fs, hf⟩; rw [hu] at hf; cases hf)
      split at h
      · rename_i a1 a2
        cases h
        rw [one hX e1, one hY e2]
        exact run_equalIn_bool' w d t a1 a2 hu
      · cases h
    · rename_i fs hu
      split at h
      · cases h
      · rename_i hst
        obtain ⟨⟨us, rfl⟩, vs, rfl⟩ := hs ⟨fs, hu⟩
        have hfo : P.fieldsOf t = fs := by simp [Program.fieldsOf, hu]
        rw [run_equalIn_struct w d t us vs (by rw [hfo]; exact hu) (by simpa using hst), hfo]
        have key : ∀ (l : List Field) (b : Bool), eqFields P (eqA P n) xs ys l = some b → (Op.eqFields d us vs l).run P w = .ok b w := by
          intro l
          induction l with
          | nil => intro b h; simp [eqFields] at h; subst h; rfl
          | cons f r ih =>
            intro b h
            simp only [eqFields] at h
            split at h
            · cases h
            · rename_i hn
              replace h := Option.bind_eq_some_iff.1 h
              obtain ⟨s, hsz, h⟩ := h
              replace h := Option.bind_eq_some_iff.1 h
              obtain ⟨q, hq, h⟩ := h
              obtain ⟨inf, hinf, rfl, hrun⟩ := esz_ok hsz
              have hXd := (hX.drop f.offset).take inf.size
              have hYd := (hY.drop f.offset).take inf.size
              simp only [Value.cells] at hXd hYd
              -- the two parts
              have parts : ∃ A B, (part f.type us f.offset).run P w = .ok A w ∧ (part f.type vs f.offset).run P w = .ok B w ∧ (Op.equalIn d f.type A B).run P w = .ok q w := by
                by_cases hstr : ∃ fs, P.underlying f.type = some (.struct fs)
                · obtain ⟨gs, hg⟩ := hstr
                  have hagg : isAggT P f.type = true := by simp [isAggT, hg]
                  have e1 : (us.extract f.offset (f.offset + inf.size)).toList = (us.toList.drop f.offset).take inf.size := by simp [List.take_drop]
                  have e2 : (vs.extract f.offset (f.offset + inf.size)).toList = (vs.toList.drop f.offset).take inf.size := by simp [List.take_drop]
                  refine ⟨.agg (us.extract f.offset (f.offset + inf.size)), .agg (vs.extract f.offset (f.offset + inf.size)), by simp [part, isAgg_run hg, hagg, hrun], by simp [part, isAgg_run hg, hagg, hrun], ?_⟩
                  exact eqA_ok n d f.type _ _ q _ _ hq (by omega) (by simp only [Value.cells]; rw [e1]; exact hXd) (by simp only [Value.cells]; rw [e2]; exact hYd) (fun _ => ⟨⟨_, rfl⟩, _, rfl⟩) (fun hne => absurd ⟨gs, hg⟩ hne)
                · have hsome : ∃ dsc, P.underlying f.type = some dsc ∧ isAggT P f.type = false ∧ ∃ A B, us[f.offset]? = some A ∧ vs[f.offset]? = some B ∧ RVs ρ w ((xs.drop f.offset).take inf.size) [A] ∧ RVs ρ w ((ys.drop f.offset).take inf.size) [B] ∧ A.cells = #[A] ∧ B.cells = #[B] := by
                    cases n with
                    | zero => simp [eqA] at hq
                    | succ n =>
                      simp only [eqA] at hq
                      have fin : ∀ {c1 c2 : Value}, ((xs.drop f.offset).take inf.size) = [AV.v c1] → ((ys.drop f.offset).take inf.size) = [AV.v c2] → c1.cells = #[c1] → c2.cells = #[c2] →
                          ∃ A B, us[f.offset]? = some A ∧ vs[f.offset]? = some B ∧ RVs ρ w ((xs.drop f.offset).take inf.size) [A] ∧ RVs ρ w ((ys.drop f.offset).take inf.size) [B] ∧ A.cells = #[A] ∧ B.cells = #[B] := by
                        intro c1 c2 ex ey o1 o2
                        have gx : xs[f.offset]? = some (.v c1) := by
                          have : ((xs.drop f.offset).take inf.size)[0]? = some (.v c1) := by rw [ex]; rfl
                          rw [List.getElem?_take, List.getElem?_drop] at this
                          split at this
                          · simpa using this
                          · cases this
                        have gy : ys[f.offset]? = some (.v c2) := by
                          have : ((ys.drop f.offset).take inf.size)[0]? = some (.v c2) := by rw [ey]; rfl
                          rw [List.getElem?_take, List.getElem?_drop] at this
                          split at this
                          · simpa using this
                          · cases this
                        obtain ⟨A, hA, rA⟩ := hX.get gx
                        obtain ⟨B, hB, rB⟩ := hY.get gy
                        rw [ex, ey]
                        cases rA
                        cases rB
                        exact ⟨c1, c2, by simpa [Value.cells] using hA, by simpa [Value.cells] using hB, RVs.cons' (.v _) RVs.nil', RVs.cons' (.v _) RVs.nil', o1, o2⟩
                      split at hq
                      · rename_i hu'
                        split at hq
                        · rename_i ex ey
                          exact ⟨_, hu', by simp [isAggT, hu'], fin ex ey rfl rfl⟩
                        · cases hq
                      · rename_i hu'
                        split at hq
                        · rename_i ex ey
                          exact ⟨_, hu', by simp [isAggT, hu'], fin ex ey rfl rfl⟩
                        · cases hq
                      · rename_i gs hu'
                        exact absurd ⟨gs, hu'⟩ hstr
                      · cases hq
                  obtain ⟨dsc, hdsc, hna, A, B, hA, hB, rA, rB, oA, oB⟩ := hsome
                  refine ⟨A, B, by simp [part, isAgg_run hdsc, hna, hA], by simp [part, isAgg_run hdsc, hna, hB], ?_⟩
                  exact eqA_ok n d f.type _ _ q A B hq (by omega) (by rw [oA]; exact rA) (by rw [oB]; exact rB) (fun hh => absurd hh hstr) (fun _ => ⟨oA, oB⟩)
              obtain ⟨A, B, pA, pB, pq⟩ := parts
              simp only [Op.eqFields, if_pos hn, Sem.run_bind, pA, pB, pq, Result.andThen_ok, Sem.run_ite]
              split at h
              · rename_i hb
                rw [hb]
                simpa using ih b h
              · rename_i hb
                have hb' : q = false := by simpa using hb
                cases h
                rw [hb']
                rfl
        exact key _ b h
    · cases h
theorem run_equalIn_nil (w : World) (d : Nat) (t : TypeId) (a : Option Addr) (l c : Nat) {e : TypeId} (hu : P.underlying t = some (.slice e)) : (Op.equalIn (d + 1) t (.slice a l c) (.slice none 0 0)).run P w = .ok a.isNone w := by
  cases a <;> simp [Op.equalIn, run_underlying hu, Result.andThen]
theorem nilTest_ok {op : BinOp} {t : TypeId} {p q : Operand} {x r : AV} {u : Value} (h : nilTest P op t x = some r) (hx : RV ρ w x u) :
    ∃ z, (do eqGuard op t p q u (.slice none 0 0); binOp op t u (.slice none 0 0) : Sem Value).run P w = .ok z w ∧ RV ρ w r z := by
  unfold nilTest at h
  split at h
  · rename_i e hu
    have yes : ∀ (l c : Nat) {r : AV}, asNil op true = some r → ∃ z, (do eqGuard op t p q (.slice none l c) (.slice none 0 0); binOp op t (.slice none l c) (.slice none 0 0) : Sem Value).run P w = .ok z w ∧ RV ρ w r z := fun l c {r} h => by
      unfold asNil at h
      split at h
      · cases h; exact ⟨_, by simp [eqGuard, binOp, Op.equal, Op.maxDepth, run_equalIn_nil w 9999 t _ _ _ hu], .v _⟩
      · cases h; exact ⟨_, by simp [eqGuard, binOp, Op.equal, Op.maxDepth, run_equalIn_nil w 9999 t _ _ _ hu], .v _⟩
      · cases h
    have no : ∀ (a : Addr) (l c : Nat) {r : AV}, asNil op false = some r → ∃ z, (do eqGuard op t p q (.slice (some a) l c) (.slice none 0 0); binOp op t (.slice (some a) l c) (.slice none 0 0) : Sem Value).run P w = .ok z w ∧ RV ρ w r z := fun a l c {r} h => by
      unfold asNil at h
      split at h
      · cases h; exact ⟨_, by simp [eqGuard, binOp, Op.equal, Op.maxDepth, run_equalIn_nil w 9999 t _ _ _ hu], .v _⟩
      · cases h; exact ⟨_, by simp [eqGuard, binOp, Op.equal, Op.maxDepth, run_equalIn_nil w 9999 t _ _ _ hu], .v _⟩
      · cases h
    split at h
    · split at h
      · rename_i hl
        cases hx with
        | sl xs a c sz U hc ha hrow hcell hsub =>
          have := ha hl
          cases a with
          | none => cases this
          | some a => exact no a _ _ h
      · cases h
    · split at h
      · rename_i hl
        cases hx with
        | os t off len k a ht hn hcap ha =>
          rw [ha (by omega)]
          exact no _ _ _ h
        | osn t a ht => omega
      · cases h
    · cases hx; exact yes _ _ h
    · cases hx; exact no _ _ _ h
    · cases h
  · cases h
theorem binA_ok {op : BinOp} {t : TypeId} {p q : Operand} {x y r : AV} {u v : Value} (h : binA P op t x y = some r) (hx : RV ρ w x u) (hy : RV ρ w y v) :
    ∃ z, (do eqGuard op t p q u v; binOp op t u v : Sem Value).run P w = .ok z w ∧ RV ρ w r z := by
  have ints : ∀ (op : BinOp) {k k' : IntKind} {a b : Int} {r : AV}, op ≠ .shl → op ≠ .shr → (if k ≠ k' then none else
      match op with
      | .add | .sub | .mul | .quo | .rem | .and | .or | .xor | .andNot => (arithI op k a b).map fun n => AV.v (.int k n)
      | _ => (cmpI op a b).map fun r => AV.v (.bool r)) = some r → ∃ z, (do eqGuard op t p q (.int k a) (.int k' b); binOp op t (.int k a) (.int k' b) : Sem Value).run P w = .ok z w ∧ RV ρ w r z := by
    intro op k k' a b r n1 n2 h
    split at h
    · cases h
    · rename_i hk
      have hk' : k = k' := by simpa using hk
      subst hk'
      cases op <;> first
        | exact absurd rfl n1
        | exact absurd rfl n2
        | (simp only [arithI, Option.map_some, Option.some.injEq] at h; subst h; exact ⟨_, by simp [eqGuard, binOp, Op.intArith, Op.intBits], .v _⟩)
        | (simp only [cmpI, Option.map_some, Option.some.injEq] at h; subst h; exact ⟨_, by simp [eqGuard, binOp, Op.intCmp], .v _⟩)
        | (simp only [arithI] at h
           split at h
           · simp at h
           · rename_i hb
             simp only [Option.map_some, Option.some.injEq] at h
             subst h
             exact ⟨_, by simp [eqGuard, binOp, Op.intDiv, hb], .v _⟩)
        | (simp [cmpI] at h; done)
  have shs : ∀ (op : BinOp) {k k' : IntKind} {a b : Int} {r : AV}, (op = .shl ∨ op = .shr) → ((shiftI op k a b).map fun n => AV.v (.int k n)) = some r → ∃ z, (do eqGuard op t p q (.int k a) (.int k' b); binOp op t (.int k a) (.int k' b) : Sem Value).run P w = .ok z w ∧ RV ρ w r z := by
    intro op k k' a b r ho h
    obtain ⟨n, hn, rfl⟩ := Option.map_eq_some_iff.1 h
    unfold shiftI at hn
    split at hn
    · cases hn
    · rename_i hb
      rcases ho with rfl | rfl <;> simp only [Option.some.injEq] at hn <;> subst hn <;> exact ⟨_, by simp [eqGuard, binOp, Op.shift, hb], .v _⟩
  have aggs : ∀ {xs ys : List AV} {us vs : Array Value} {b : Bool} {fs : Array Field}, P.underlying t = some (.struct fs) → RVs ρ w xs us.toList → RVs ρ w ys vs.toList → eqA P 100 t xs ys = some b → (Op.equal t (.agg us) (.agg vs)).run P w = .ok b w :=
    fun {xs ys us vs b fs} hu h1 h2 h3 => eqA_ok 100 10000 t xs ys b (.agg us) (.agg vs) h3 (by omega) h1 h2 (fun _ => ⟨⟨_, rfl⟩, _, rfl⟩) (fun hne => absurd ⟨fs, hu⟩ hne)
  unfold binA at h
  split at h
  · cases hx; cases hy; exact shs .shl (.inl rfl) h
  · cases hx; cases hy; exact shs .shr (.inr rfl) h
  · rename_i n1 n2
    cases hx; cases hy
    exact ints op (by rintro rfl; simp_all) (by rintro rfl; simp_all) h
  · cases hx; cases hy
    split at h
    · rename_i hu
      cases h
      exact ⟨_, by simp [eqGuard, binOp, Op.equal, Op.maxDepth, run_equalIn_bool' w 9999 t _ _ hu], .v _⟩
    · cases h
  · cases hx; cases hy
    split at h
    · rename_i hu
      cases h
      exact ⟨_, by simp [eqGuard, binOp, Op.equal, Op.maxDepth, run_equalIn_bool' w 9999 t _ _ hu], .v _⟩
    · cases h
  · cases hx; cases hy
    cases h
    exact ⟨_, by simp [eqGuard, binOp, Op.stringOp], .v _⟩
  · cases hx; cases hy
    cases h
    exact ⟨_, by simp [eqGuard, binOp, Op.stringOp], .v _⟩
  · split at h
    · rename_i fs hu
      split at h
      · cases h
      · rename_i hgd
        obtain ⟨b, hb, rfl⟩ := Option.map_eq_some_iff.1 h
        cases hx with
        | agg l us hl hsub =>
          cases hy with
          | agg m vs hl2 hsub2 =>
            have := aggs hu ⟨by simpa using hl, fun j x y h1 h2 => hsub j x y h1 (by simpa using h2)⟩ ⟨by simpa using hl2, fun j x y h1 h2 => hsub2 j x y h1 (by simpa using h2)⟩ hb
            exact ⟨_, by simp [eqGuard, binOp, hgd, this], .v _⟩
    · cases h
  · split at h
    · rename_i fs hu
      split at h
      · cases h
      · rename_i hgd
        obtain ⟨b, hb, rfl⟩ := Option.map_eq_some_iff.1 h
        cases hx with
        | agg l us hl hsub =>
          cases hy with
          | agg m vs hl2 hsub2 =>
            have := aggs hu ⟨by simpa using hl, fun j x y h1 h2 => hsub j x y h1 (by simpa using h2)⟩ ⟨by simpa using hl2, fun j x y h1 h2 => hsub2 j x y h1 (by simpa using h2)⟩ hb
            exact ⟨_, by simp [eqGuard, binOp, hgd, this], .v _⟩
    · cases h
  · cases h

/-! #### Slices of slices -/
theorem boundA_ok {lim d n : Nat} {x : Option AV} {y : Option Value} {code : BoundsCode} (h : boundA lim x d = some n) (hn : x = none ↔ y = none) (hr : ∀ u v, x = some u → y = some v → RV ρ w u v) :
    (y = none ∧ n = d) ∨ (∃ v, y = some v ∧ n ≤ lim ∧ ∀ code, (Instr.sliceBound v lim code).run P w = .ok n w) := by
  cases x with
  | none => simp [boundA] at h; exact .inl ⟨hn.1 rfl, h.symm⟩
  | some u =>
    cases y with
    | none => have := hn.2 rfl; cases this
    | some v =>
      have hv := hr u v rfl rfl
      unfold boundA at h
      split at h
      · rename_i heq; cases heq
      · rename_i k m heq
        cases heq
        cases hv
        split at h
        · rename_i hb
          cases h
          exact .inr ⟨_, rfl, by omega, fun code => by simp [Instr.sliceBound, asIntOf, hb.1, hb.2]⟩
        · cases h
      · cases h
theorem sliceA_ok {t : TypeId} {x r : AV} {y : Value} {lo hi : Option AV} {l h : Option Value} (hh : sliceA P σ t x lo hi = some r) (hr : RV ρ w x y) (hS : StoOk ρ w σ)
    (nl : lo = none ↔ l = none) (rl : ∀ u v, lo = some u → l = some v → RV ρ w u v) (nh : hi = none ↔ h = none) (rh : ∀ u v, hi = some u → h = some v → RV ρ w u v) : ∃ v, (Instr.sliceAt t y l h none).run P w = .ok v w ∧ RV ρ w r v := by
  have bounds : ∀ {b : Bool} {len cap hv lv : Nat}, boundA cap hi len = some hv → boundA hv lo 0 = some lv → (Instr.sliceBounds b len cap l h none).run P w = .ok (lv, hv, cap) w ∧ lv ≤ hv ∧ (h = none → hv = len) ∧ (h ≠ none → hv ≤ cap) := by
    intro b len cap hv lv h1 h2
    have c1 := boundA_ok (P := P) (code := .index) h1 nh rh
    have c2 := boundA_ok (P := P) (code := .index) h2 nl rl
    rcases c1 with ⟨rfl, rfl⟩ | ⟨v1, rfl, hle, hrun⟩ <;> rcases c2 with ⟨rfl, rfl⟩ | ⟨v2, rfl, hle2, hrun2⟩
    · exact ⟨by simp [Instr.sliceBounds], Nat.zero_le _, fun _ => rfl, fun hne => absurd rfl hne⟩
    · exact ⟨by simp [Instr.sliceBounds, hrun2], hle2, fun _ => rfl, fun hne => absurd rfl hne⟩
    · exact ⟨by simp [Instr.sliceBounds, hrun], Nat.zero_le _, (fun hne => by cases hne), fun _ => hle⟩
    · exact ⟨by simp [Instr.sliceBounds, hrun, hrun2], hle2, (fun hne => by cases hne), fun _ => hle⟩
  unfold sliceA at hh
  split at hh
  · rename_i e hu
    replace hh := Option.bind_eq_some_iff.1 hh
    obtain ⟨s, hs, hh⟩ := hh
    replace hh := Option.bind_eq_some_iff.1 hh
    obtain ⟨hv, h1, hh⟩ := hh
    replace hh := Option.bind_eq_some_iff.1 hh
    obtain ⟨lv, h2, hh⟩ := hh
    cases hh
    obtain ⟨inf, hinf, rfl, hrun⟩ := esz_ok hs
    cases hr with
    | nil a =>
      obtain ⟨hb, hle, hn1, hn2⟩ := bounds (b := true) h1 h2
      have e0 : hv = 0 := by
        by_cases hc : h = none
        · exact hn1 hc
        · have := hn2 hc; omega
      have e1 : lv = 0 := by omega
      subst e0; subst e1
      exact ⟨.slice a 0 0, by simp [Instr.sliceAt, Instr.slice, run_underlying hu, hb, hrun], .nil _⟩
  · rename_i e xs hu
    replace hh := Option.bind_eq_some_iff.1 hh
    obtain ⟨s, hs, hh⟩ := hh
    split at hh
    case isFalse => cases hh
    rename_i hrows
    replace hh := Option.bind_eq_some_iff.1 hh
    obtain ⟨hv, h1, hh⟩ := hh
    replace hh := Option.bind_eq_some_iff.1 hh
    obtain ⟨lv, h2, hh⟩ := hh
    cases hh
    obtain ⟨inf, hinf, hsi, hrun⟩ := esz_ok hs
    cases hr with
    | sl xs a c sz U hc ha hrow hcell hsub =>
      have hle1 : hv ≤ xs.length := by
        have c1 := boundA_ok (P := P) (code := .index) h1 nh rh
        rcases c1 with ⟨_, rfl⟩ | ⟨_, _, hle, _⟩
        · exact Nat.le_refl _
        · exact hle
      have h1' : boundA c hi xs.length = some hv := by
        unfold boundA at h1 ⊢
        split at h1
        · exact h1
        · split at h1
          · rename_i hb
            rw [if_pos ⟨hb.1, by omega⟩]; exact h1
          · cases h1
        · cases h1
      obtain ⟨hb, hle, hn1, hn2⟩ := bounds (b := true) h1' h2
      refine ⟨.slice (if c = lv then a else a.map (·.add (lv * s))) (hv - lv) (c - lv), by simp [Instr.sliceAt, Instr.slice, run_underlying hu, hb, hrun], ?_⟩
      have hl : ((xs.take hv).drop lv).length = hv - lv := by simp; omega
      rw [← hl]
      refine .sl _ _ _ sz (fun i j => U (lv + i) j) (by rw [hl]; omega) (fun hp => ?_) (fun i row hi' => ?_) (fun i row j x hi' hj => ?_) (fun i row j x hi' hj => ?_)
      · rw [hl] at hp
        have := ha (by omega)
        split
        · exact this
        · simpa using this
      · rw [List.getElem?_drop, List.getElem?_take] at hi'
        split at hi'
        · exact hrow _ row hi'
        · cases hi'
      · rw [List.getElem?_drop, List.getElem?_take] at hi'
        split at hi'
        · rename_i hlt
          obtain ⟨hf, ad, rfl, hno, hcl⟩ := hcell _ row j x hi' hj
          refine ⟨hf, ad.add (lv * s), ?_, by rw [add_block]; exact hno, ?_⟩
          · rw [if_neg (by omega)]; rfl
          · have hsz' : sz = s := by
              cases hxs : xs with
              | nil => rw [hxs] at hi'; simp at hi'
              | cons r0 rs =>
                have h3 := List.all_eq_true.1 hrows r0 (by rw [hxs]; simp)
                have h4 := hrow 0 r0 (by rw [hxs]; rfl)
                rw [← h4]
                simpa using h3
            rw [Addr.add_add, ← hsz', ← Nat.add_assoc, ← Nat.add_mul]
            exact hcl
        · cases hi'
      · rw [List.getElem?_drop, List.getElem?_take] at hi'
        split at hi'
        · exact hsub _ row j x hi' hj
        · cases hi'
  · rename_i e k off len hu
    split at hh
    · rename_i sz xs hσ
      replace hh := Option.bind_eq_some_iff.1 hh
      obtain ⟨s, hs, hh⟩ := hh
      split at hh
      case isFalse => cases hh
      rename_i hrows
      obtain ⟨inf, hinf, hsi, hrun⟩ := esz_ok hs
      replace hh := Option.bind_eq_some_iff.1 hh
      obtain ⟨hv, h1, hh⟩ := hh
      replace hh := Option.bind_eq_some_iff.1 hh
      obtain ⟨lv, h2, hh⟩ := hh
      cases hh
      cases hr with
      | os _ _ _ bk a ht hn hcap ha =>
        have hk := hS.row k _ hσ
        rw [ht] at hk
        obtain ⟨hksz, hkn, _, _, _, _, _, hkr⟩ := hk
        have hle1 : hv ≤ xs.length - off := by
          have c1 := boundA_ok (P := P) (code := .index) h1 nh rh
          rcases c1 with ⟨_, rfl⟩ | ⟨_, _, hle, _⟩
          · omega
          · exact hle
        have h1' : boundA (bk.cap - off) hi len = some hv := by
          unfold boundA at h1 ⊢
          split at h1
          · exact h1
          · split at h1
            · rename_i hb
              rw [if_pos ⟨hb.1, by omega⟩]; exact h1
            · cases h1
          · cases h1
        obtain ⟨hb, hle, hn1, hn2⟩ := bounds (b := true) h1' h2
        have hsz : lv * s = lv * bk.sz := by rw [hksz, hrows]
        refine ⟨.slice (if bk.cap - off = lv then a else a.map (·.add (lv * s))) (hv - lv) (bk.cap - off - lv), by simp [Instr.sliceAt, Instr.slice, run_underlying hu, hb, hrun], ?_⟩
        rw [show bk.cap - off - lv = bk.cap - (off + lv) from by omega]
        refine .os k (off + lv) (hv - lv) bk _ ht (by omega) hcap (fun hlt => ?_)
        rw [if_neg (by omega), ha (by omega)]
        simp only [Option.map_some]
        rw [add_add', hsz, ← Nat.add_mul, Nat.add_assoc]
      | osn _ a ht =>
        have hk := hS.row k _ hσ
        rw [ht] at hk
        have hk' : xs = [] := hk
        subst hk'
        simp only [List.length_nil, Nat.zero_sub] at h1
        obtain ⟨hb, hle, hn1, hn2⟩ := bounds (b := true) h1 h2
        have e0 : hv = 0 := by
          by_cases hc : h = none
          · exact hn1 hc
          · have := hn2 hc; omega
        have e1 : lv = 0 := by omega
        subst e0; subst e1
        exact ⟨.slice a 0 0, by simp [Instr.sliceAt, Instr.slice, run_underlying hu, hb, hrun], .osn k _ ht⟩
    · cases hh
  · rename_i s hu
    replace hh := Option.bind_eq_some_iff.1 hh
    obtain ⟨hv, h1, hh⟩ := hh
    replace hh := Option.bind_eq_some_iff.1 hh
    obtain ⟨lv, h2, hh⟩ := hh
    cases hh
    cases hr
    obtain ⟨hb, _⟩ := bounds (b := false) h1 h2
    exact ⟨_, by simp [Instr.sliceAt, Instr.slice, run_underlying hu, hb], .v _⟩
  · cases hh
end
end Go.Proofs.Ytnmnaomfohlmcaa.E
