/- Code, loops, functions: what the evaluator says is what the machine does. -/
import Derived.Test.YtabdcfcnngnnoaaDoorE17
import Derived.LoopN
set_option linter.unusedVariables false
set_option linter.unusedSimpArgs false
namespace Go.Proofs.YtabdcfcnngnnoaaDoor.E
open Go
def toExit : Ex → Exit
  | .normal => .normal
  | .exit id => .exit id
  | .ret => .ret
section
variable {P : Program} {o : Oper} {a : Act} {w w0 : World} {ρ ρ0 : Gh} {σ : List Row} {base : Nat} {hs : FH} {call : CallF}
def LoopOk (P : Program) (base : Nat) (ρ0 : Gh) (w0 : World) (loop : Code → St → Option (Ex × St)) : Prop := ∀ (c : Code) (st : St) (ex : Ex) (st' : St), loop c st = some (ex, st') → ∀ (a : Act) (w : World) (Q : Exit → Act → World → Prop), Inv base ρ0 w0 st a w →
  (∀ a' w', Inv base ρ0 w0 st' a' w' → Q (toExit ex) a' w') → (Code.loop c).wp P Q a w
theorem evRegion_ok (hK : Known P call) (hm : P.follows .mixedOrders = true) {id : Nat} {ops : Array Oper} {draw : Bool} {st st' : St} {Q : Exit → Act → World → Prop} (h : evRegion P hs call base ops draw st = some st') (hI : Inv base ρ0 w0 st a w) (hq : ∀ a' w', Inv base ρ0 w0 st' a' w' → Q .normal a' w') :
    (Code.region id ops draw).wp P Q a w := by
  unfold evRegion at h
  replace h := Option.bind_eq_some_iff.1 h
  obtain ⟨⟨s1, ws⟩, h1, h⟩ := h
  split at h
  · rename_i hc
    cases h
    cases draw with
    | false => exact wp_region_list (evOps_ok hK _ _ _ _ _ _ h1 hI hq)
    | true => exact draw_ok hK hm h1 (by simpa using hc) hI hq
  · cases h
theorem keepE_length (ks : List Nat) : ∀ (i : Nat) (env : List AV), (keepE ks i env).length = env.length
  | _, [] => rfl
  | i, x :: r => by simp [keepE, keepE_length ks (i + 1) r]
theorem keepE_get (ks : List Nat) : ∀ (i : Nat) (env : List AV) (j : Nat) (x : AV), (keepE ks i env)[j]? = some x → x = .dead ∨ env[j]? = some x
  | _, [], j, x, h => by simp [keepE] at h
  | i, y :: r, 0, x, h => by
    simp only [keepE, List.getElem?_cons_zero, Option.some.injEq] at h ⊢
    split at h
    · exact .inr h
    · exact .inl h.symm
  | i, y :: r, j + 1, x, h => by
    simp only [keepE, List.getElem?_cons_succ] at h ⊢
    exact keepE_get ks (i + 1) r j x h
theorem foldl_set_dead {env : List AV} (slots : List Nat) (h : EnvOk ρ w env a) : EnvOk ρ w (keepE slots 0 env) a :=
  ⟨by rw [keepE_length]; exact h.size, h.defers, fun i x y h1 h2 => by
    rcases keepE_get slots 0 env i x h1 with rfl | h3
    · exact .dead _
    · exact h.val i x y h3 h2⟩
theorem killX_ok {c : Code} {q q' : Ex × St} (h : killX base hs c q = q') (hI : Inv base ρ0 w0 q.2 a w) : q.1 = q'.1 ∧ Inv base ρ0 w0 q'.2 a w := by
  subst h
  unfold killX
  split
  · obtain ⟨ρ, he, hsto, hf⟩ := hI
    exact ⟨rfl, _, foldl_set_dead _ (killE_ok he (Ext.giveUp ρ w _)), hsto.giveUp _, hf.step (Ext.giveUp ρ w _) (fun t ht => ht) (fun t ht => by
      obtain ⟨u, _, rfl⟩ := List.mem_map.1 ht
      exact .inl (by omega))⟩
  · exact ⟨rfl, hI⟩
theorem StoOk.setRow {ρ : Gh} {w : World} {σ : List Row} (h : StoOk ρ w σ) (t : Nat) (row : Row) (hr : RowOk ρ w (ρ t) row) : StoOk ρ w (σ.set t row) where
  len := fun u k hu => by rw [List.length_set]; exact h.len u k hu
  inj := h.inj
  blk := h.blk
  apart := h.apart
  old := h.old
  tab := h.tab
  row := fun u r hu => by
    rw [List.getElem?_set] at hu
    split at hu
    · rename_i e
      split at hu
      · cases hu; subst e; exact hr
      · cases hu
    · exact h.row u r hu
theorem weak_frozen : ∀ x : AV, frozen x = true → frozen (weakV x) = true := fun x h => by
  cases x <;> first | exact h | rfl | (simp [frozen] at h)
theorem weakAt_ok {st : St} {i : Nat} (hI : Inv base ρ0 w0 st a w) : Inv base ρ0 w0 (weakAt st i) a w := by
  unfold weakAt
  split
  · rename_i hnil
    obtain ⟨ρ, he, hsto, hf⟩ := hI
    refine ⟨ρ, ⟨by rw [List.length_set]; exact he.size, he.defers, fun j y z h1 h2 => ?_⟩, hsto, hf⟩
    rw [List.getElem?_set] at h1
    split at h1
    · rename_i e
      split at h1
      · cases h1
        subst e
        exact (he.val _ .nil z hnil h2).weak
      · cases h1
    · exact he.val j y z h1 h2
  · rename_i t off len hos
    split
    · rename_i sz xs hrow
      obtain ⟨ρ, he, hsto, hf⟩ := hI
      refine ⟨ρ, he, hsto.setRow t _ ?_, hf⟩
      have hr := hsto.row t _ hrow
      generalize ρ t = g at hr ⊢
      cases g with
      | none =>
        have : xs = [] := hr
        subst this
        exact (rfl : ([] : List (List AV)).map weakL = [])
      | some k =>
        obtain ⟨h0, h1, h2, cs, e, h3, h4, h5⟩ := hr
        refine ⟨h0, by rw [List.length_map]; exact h1, h2, cs, e, h3, h4, fun i row hi => ?_⟩
        rw [List.getElem?_map] at hi
        obtain ⟨row0, hi0, rfl⟩ := Option.map_eq_some_iff.1 hi
        obtain ⟨q1, q2⟩ := h5 i row0 hi0
        refine ⟨by rw [weakL_len]; exact q1, fun j x hj => ?_⟩
        rw [weakL_get] at hj
        obtain ⟨x0, hj0, rfl⟩ := Option.map_eq_some_iff.1 hj
        obtain ⟨q3, y, q4, q5⟩ := q2 j x0 hj0
        exact ⟨weak_frozen _ q3, y, q4, q5.weak⟩
    · exact hI
  · exact hI
theorem nilAt_ok {st : St} {x : Nat × Nat × Nat} (hI : Inv base ρ0 w0 st a w) : Inv base ρ0 w0 (nilAt base st x) a w := by
  unfold nilAt
  split
  · exact weakAt_ok hI
  split
  · rename_i hnil
    split
    · rename_i hlt
      obtain ⟨ρ, he, hsto, hf⟩ := hI
      have hx : Ext ρ w (del ρ [base + x.2.1]) w [base + x.2.1] := Ext.giveUp ρ w _
      have hk := killE_ok he hx
      refine ⟨_, ⟨by rw [List.length_set]; exact hk.size, hk.defers, fun i y z h1 h2 => ?_⟩, ?_, hf.step hx (fun t ht => ht) (fun t ht => .inl (by simp at ht; omega))⟩
      · rw [List.getElem?_set] at h1
        split at h1
        · rename_i e
          split at h1
          · cases h1
            subst e
            have := he.val _ .nil z hnil h2
            cases this
            exact .osn _ _ (by rw [del_at, if_pos (by simp)])
          · cases h1
        · exact hk.val i y z h1 h2
      · refine hsto.put hx (base + x.2.1) (.arr x.2.2 []) ?_ (fun u ku hu => hsto.len u ku (del_some hu).1) (fun u u' k1 k2 g1 g2 ge => hsto.inj u u' k1 k2 (del_some g1).1 (del_some g2).1 ge) (fun u ku hu => ⟨hsto.blk u ku (del_some hu).1, hsto.apart u ku (del_some hu).1⟩) (fun u ku _ _ hu => rfl)
        rw [del_at, if_pos (by simp)]
        rfl
    · exact hI
  · rename_i t hpt
    split
    · rename_i cells hbox
      split
      · rename_i hnil
        split
        · rename_i hc
          obtain ⟨hlt, hne⟩ := hc
          obtain ⟨ρ, he, hsto, hf⟩ := hI
          have hx : Ext ρ w (del ρ [base + x.2.1]) w [base + x.2.1] := Ext.giveUp ρ w _
          have hs1 := hsto.put hx (base + x.2.1) (.arr (x.2.2 % 100) []) (by rw [del_at, if_pos (by simp)]; rfl) (fun u ku hu => hsto.len u ku (del_some hu).1) (fun u u' k1 k2 g1 g2 ge => hsto.inj u u' k1 k2 (del_some g1).1 (del_some g2).1 ge) (fun u ku hu => ⟨hsto.blk u ku (del_some hu).1, hsto.apart u ku (del_some hu).1⟩) (fun u ku _ _ hu => rfl)
          refine ⟨_, killE_ok he hx, hs1.setRow t _ ?_, hf.step hx (fun t ht => ht) (fun t ht => .inl (by simp at ht; omega))⟩
          have hr := RowOk.ext hx (fun _ _ => rfl) (hsto.row t _ hbox)
          obtain ⟨k, hg, ho, cs, e, hb, hcl⟩ := hr
          refine ⟨k, by rw [del_at, if_neg (by simpa using fun e => hne e.symm)]; exact hg, ho, cs, e, hb, fun j z hj => ?_⟩
          rw [List.getElem?_set] at hj
          split at hj
          · rename_i e2
            split at hj
            · cases hj
              subst e2
              obtain ⟨y, h1, h2⟩ := hcl _ .nil (by rw [killL_get, hnil]; rfl)
              refine ⟨y, h1, ?_⟩
              cases h2
              exact .osn _ _ (by rw [del_at, if_pos (by simp)])
            · cases hj
          · exact hcl j z hj
        · exact hI
      · exact hI
    · exact hI
  · exact hI
theorem joinAt0_ok {c : Code} {st : St} (hI : Inv base ρ0 w0 st a w) : Inv base ρ0 w0 (joinAt0 base hs c st) a w := by
  unfold joinAt0
  split
  · obtain ⟨ρ, he, hsto, hf⟩ := hI
    exact ⟨_, foldl_set_dead _ (killE_ok he (Ext.giveUp ρ w _)), hsto.giveUp _, hf.step (Ext.giveUp ρ w _) (fun t ht => ht) (fun t ht => by
      obtain ⟨u, _, rfl⟩ := List.mem_map.1 ht
      exact .inl (by omega))⟩
  · exact hI
theorem joinAt_ok {c : Code} {st : St} (hI : Inv base ρ0 w0 st a w) : Inv base ρ0 w0 (joinAt base hs c st) a w := by
  unfold joinAt
  have h0 := joinAt0_ok (hs := hs) (c := c) hI
  generalize (hs.joins.lookup (firstReg c)).getD [] = l
  generalize joinAt0 base hs c st = st' at h0
  induction l generalizing st' with
  | nil => exact h0
  | cons x r ih => exact ih _ (nilAt_ok h0)
theorem evC_ok (hK : Known P call) (hm : P.follows .mixedOrders = true) {loop : Code → St → Option (Ex × St)} (hL : LoopOk P base ρ0 w0 loop) : ∀ (c : Code) (st : St) (ex : Ex) (st' : St), evC P hs call base loop c st = some (ex, st') → ∀ (a : Act) (w : World) (Q : Exit → Act → World → Prop), Inv base ρ0 w0 st a w →
    (∀ a' w', Inv base ρ0 w0 st' a' w' → Q (toExit ex) a' w') → c.wp P Q a w
  | .skip, st, ex, st', h, a, w, Q, hI, hq => by
    simp only [evC] at h
    cases h
    exact wp_skip (hq a w hI)
  | .region id ops draw, st, ex, st', h, a, w, Q, hI, hq => by
    simp only [evC] at h
    obtain ⟨s, hs', h⟩ := Option.map_eq_some_iff.1 h
    cases h
    exact evRegion_ok hK hm hs' hI hq
  | .seq x y, st, ex, st', h, a, w, Q, hI, hq => by
    simp only [evC] at h
    split at h
    · rename_i s1 h1
      refine wp_seq (evC_ok hK hm hL x st .normal s1 h1 a w _ hI (fun a' w' hI' => ?_))
      exact evC_ok hK hm hL y _ ex st' h a' w' Q (joinAt_ok hI') hq
    · rename_i hne
      refine wp_seq (evC_ok hK hm hL x st ex st' h a w _ hI (fun a' w' hI' => ?_))
      cases ex with
      | normal => exact absurd h (hne _)
      | exit id => exact hq a' w' hI'
      | ret => exact hq a' w' hI'
  | .cond c x y, st, ex, st', h, a, w, Q, hI, hq => by
    simp only [evC] at h
    obtain ⟨ρ, he, _, _⟩ := id hI
    unfold ifA at h
    split at h
    · rename_i t hc
      have := evA_ok he c _ hc
      generalize hv : a.eval c = v at this
      cases this
      split at h
      · rename_i ht
        subst ht
        exact wp_cond_true hv (evC_ok hK hm hL x st ex st' h a w Q hI hq)
      · rename_i ht
        have ht' : t = false := by simpa using ht
        subst ht'
        exact wp_cond_false hv (evC_ok hK hm hL y st ex st' h a w Q hI hq)
    · cases h
  | .block id c, st, ex, st', h, a, w, Q, hI, hq => by
    simp only [evC] at h
    split at h
    · rename_i j s1 h1
      refine wp_block (evC_ok hK hm hL c st (.exit j) s1 h1 a w _ hI (fun a' w' hI' => ?_))
      show (if j = id then Q .normal a' w' else Q (.exit j) a' w')
      split at h
      · rename_i hj
        cases h
        rw [if_pos hj]
        exact hq a' w' hI'
      · rename_i hj
        cases h
        rw [if_neg hj]
        exact hq a' w' hI'
    · rename_i hne
      refine wp_block (evC_ok hK hm hL c st ex st' h a w _ hI (fun a' w' hI' => ?_))
      cases ex with
      | normal => exact hq a' w' hI'
      | exit id => exact absurd h (hne _ _)
      | ret => exact hq a' w' hI'
  | .loop c, st, ex, st', h, a, w, Q, hI, hq => by
    simp only [evC] at h
    obtain ⟨q, h1, h2⟩ := Option.map_eq_some_iff.1 h
    refine hL c st q.1 q.2 h1 a w Q hI (fun a' w' hI' => ?_)
    obtain ⟨e1, e2⟩ := killX_ok h2 hI'
    rw [e1]
    exact hq a' w' e2
  | .exit id, st, ex, st', h, a, w, Q, hI, hq => by
    simp only [evC] at h
    cases h
    exact wp_exit (hq a w hI)
  | .ret, st, ex, st', h, a, w, Q, hI, hq => by
    simp only [evC] at h
    cases h
    exact wp_ret (hq a w hI)
  | .rangeFunc .., st, ex, st', h, a, w, Q, hI, hq => by simp [evC] at h
  | .scope _, st, ex, st', h, a, w, Q, hI, hq => by simp [evC] at h
  | .label _, st, ex, st', h, a, w, Q, hI, hq => by simp [evC] at h
  | .goto _, st, ex, st', h, a, w, Q, hI, hq => by simp [evC] at h
  | .refuse _, st, ex, st', h, a, w, Q, hI, hq => by simp [evC] at h
theorem killAt0_ok {c : Code} {st : St} (hI : Inv base ρ0 w0 st a w) : Inv base ρ0 w0 (killAt0 base hs c st) a w := by
  unfold killAt0
  split
  · rename_i slots toks _
    obtain ⟨ρ, he, hsto, hf⟩ := hI
    exact ⟨_, foldl_set_dead slots (killE_ok he (Ext.giveUp ρ w (toks.map (base + ·)))), hsto.giveUp _, hf.step (Ext.giveUp ρ w _) (fun t ht => ht) (fun t ht => by
      obtain ⟨u, _, rfl⟩ := List.mem_map.1 ht
      exact .inl (by omega))⟩
  · exact hI
theorem killAt_ok {c : Code} {st : St} (hI : Inv base ρ0 w0 st a w) : Inv base ρ0 w0 (killAt base hs c st) a w := by
  unfold killAt
  have h0 := killAt0_ok (hs := hs) (c := c) hI
  generalize (hs.nils.lookup (firstReg c)).getD [] = l
  generalize killAt0 base hs c st = st' at h0
  induction l generalizing st' with
  | nil => exact h0
  | cons x r ih => exact ih _ (nilAt_ok h0)
theorem evLoop_rounds (hK : Known P call) (hm : P.follows .mixedOrders = true) : ∀ (k : Nat) (c : Code) (st : St) (ex : Ex) (st' : St), evLoop P hs call base k c st = some (ex, st') → ∀ (a : Act) (w : World) (Q : Exit → Act → World → Prop), Inv base ρ0 w0 st a w →
    (∀ a' w', Inv base ρ0 w0 st' a' w' → Q (toExit ex) a' w') → Code.rounds P c Q k a w
  | 0, c, st, ex, st', h, _, _, _, _, _ => by simp [evLoop] at h
  | k + 1, c, st, ex, st', h, a, w, Q, hI, hq => by
    have hL : LoopOk P base ρ0 w0 (evLoop P hs call base k) := fun c st ex st' h a w Q hI hq => wp_loop_rounds k (evLoop_rounds hK hm k c st ex st' h a w Q hI hq)
    simp only [evLoop] at h
    rw [rounds_succ]
    split at h
    · rename_i s1 h1
      exact evC_ok hK hm hL c _ .normal s1 h1 a w _ (killAt_ok hI) (fun a' w' hI' => evLoop_rounds hK hm k c s1 ex st' h a' w' Q hI' hq)
    · rename_i hne
      refine evC_ok hK hm hL c _ ex st' h a w _ (killAt_ok hI) (fun a' w' hI' => ?_)
      cases ex with
      | normal => exact absurd h (hne _)
      | exit id => exact hq a' w' hI'
      | ret => exact hq a' w' hI'
theorem evLoop_ok (hK : Known P call) (hm : P.follows .mixedOrders = true) (k : Nat) : LoopOk P base ρ0 w0 (evLoop P hs call base k) := fun c st ex st' h a w Q hI hq => wp_loop_rounds k (evLoop_rounds hK hm k c st ex st' h a w Q hI hq)
/-! #### What a function hands back -/
mutual
theorem nameV_id : ∀ x : AV, nameV id x = x
  | .v _ | .nil | .sl _ | .cl _ | .dead => by simp [nameV]
  | .os .. | .pt .. | .mp _ => by simp [nameV]
  | .rp cells => by simp [nameV, nameL_id cells]
  | .clo f caps => by simp [nameV, nameL_id caps]
  | .agg cells => by simp [nameV, nameL_id cells]
  | .tup xs => by simp [nameV, nameL_id xs]
theorem nameL_id : ∀ l : List AV, nameL id l = l
  | [] => rfl
  | x :: r => by simp [nameL, nameV_id x, nameL_id r]
end
theorem nameR_id (r : Row) : nameR id r = r := by cases r <;> simp [nameR, nameL_id]
def resOf (tmps : Array Value) : ResultVar → Sem Value
  | .tmp t => pure (tmps.getD t undef)
  | .cell a t => do loadVar t (← asAddr (tmps.getD a undef))
theorem resA_ok {st : St} (he : EnvOk ρ w st.env a) (hS : StoOk ρ w st.sto) : ∀ {l : List ResultVar} {vs : List AV}, resA P st l = some vs → ∃ us, (l.mapM (resOf a.tmps)).run P w = .ok us w ∧ RVs ρ w vs us
  | [], vs, h => by cases h; exact ⟨[], rfl, RVs.nil'⟩
  | .tmp t :: r, vs, h => by
    simp only [resA] at h
    replace h := Option.bind_eq_some_iff.1 h
    obtain ⟨x, hx, h⟩ := h
    obtain ⟨xs, hxs, rfl⟩ := Option.map_eq_some_iff.1 h
    obtain ⟨us, h1, h2⟩ := resA_ok he hS hxs
    have hr := evA_ok he (.tmp t) x hx
    exact ⟨a.eval (.tmp t) :: us, by simp only [List.mapM_cons, Sem.run_bind, resOf, Sem.run_pure, Result.andThen_ok, h1]; rfl, RVs.cons' hr h2⟩
  | .cell p t :: r, vs, h => by
    simp only [resA] at h
    replace h := Option.bind_eq_some_iff.1 h
    obtain ⟨x, hx, h⟩ := h
    replace h := Option.bind_eq_some_iff.1 h
    obtain ⟨cs, hcs, h⟩ := h
    replace h := Option.bind_eq_some_iff.1 h
    obtain ⟨y, hy, h⟩ := h
    obtain ⟨xs, hxs, rfl⟩ := Option.map_eq_some_iff.1 h
    obtain ⟨us, h1, h2⟩ := resA_ok he hS hxs
    have hr := evA_ok he (.tmp p) x hx
    obtain ⟨ad, e1, h3⟩ := cellsAt_ok hcs hr hS
    obtain ⟨u, h4, h5⟩ := loadA_ok (P := P) hy h3
    have e2 : a.tmps.getD p undef = .pointer (some ad) := e1
    exact ⟨u :: us, by simp only [List.mapM_cons, Sem.run_bind, resOf, e2, asAddr, Sem.run_pure, Result.andThen_ok, h4, h1], RVs.cons' h5 h2⟩
theorem packA_ok {vs : List AV} {us : List Value} (h : RVs ρ w vs us) : RV ρ w (packA vs) (if h : us.toArray.size = 1 then us.toArray[0] else .tuple us.toArray) := by
  have tup : us.length ≠ 1 → RV ρ w (.tup (weakL vs)) (if h : us.toArray.size = 1 then us.toArray[0] else .tuple us.toArray) := fun hne => by
    rw [dif_neg (by simpa using hne)]
    have hw := h.weak
    exact .tup _ _ (by simpa using hw.1) (fun j x y h1 h2 => hw.2 j x y h1 (by simpa using h2))
  match vs, h, tup with
  | [x], h, _ =>
    obtain ⟨y, r, rfl, h1, h2⟩ := h.head
    have : r = [] := List.eq_nil_of_length_eq_zero (by rw [← h2.1]; rfl)
    subst this
    exact h1.weak
  | [], h, tup => exact tup (by rw [← h.1]; simp)
  | x :: y :: r, h, tup => exact tup (by rw [← h.1]; simp)
theorem packB_ok {sg : Bool} {vs : List AV} {us : List Value} (h : RVs ρ w vs us) : RV ρ w (packB sg vs) (if h : us.toArray.size = 1 then us.toArray[0] else .tuple us.toArray) := by
  unfold packB
  split
  · match vs, us, h with
    | [], [], h => exact .tup _ _ rfl (fun j x y h1 h2 => by simp at h1)
    | [x], [u], h => exact h.2 0 x u rfl rfl
    | x :: y :: r, us, h =>
      have hl := h.1
      rw [dif_neg (by simp at hl ⊢; omega)]
      exact .tup _ _ (by simpa using hl) (fun j x y h1 h2 => h.2 j x y h1 (by simpa using h2))
    | [x], [], h => have := h.1; simp at this
    | [x], _ :: _ :: _, h => have := h.1; simp at this
    | [], _ :: _, h => have := h.1; simp at this
  · exact packA_ok h
theorem finish_ok {sg : Bool} (hS0 : StoOk ρ0 w0 σ) (hb : base = σ.length) {fn : Func} {st : St} {r : AV} {s1 : List Row} {mv : List Nat} (h : finish P sg base fn st = some (r, s1, mv)) (hI : Inv base ρ0 w0 st a w) :
    ∃ v, (results fn a.tmps).run P w = .ok v w ∧ ∃ ρ', RV ρ' w r v ∧ StoOk ρ' w s1 ∧ Ext ρ0 w0 ρ' w (mv ++ List.range' σ.length (s1.length - σ.length)) := by
  obtain ⟨ρ, he, hS, m, hx, hm⟩ := hI
  unfold finish at h
  replace h := Option.bind_eq_some_iff.1 h
  obtain ⟨vs, hvs, h⟩ := h
  obtain ⟨us, hus, hrv⟩ := resA_ok (P := P) he hS hvs
  have hrun : (results fn a.tmps).run P w = .ok (if h : us.toArray.size = 1 then us.toArray[0] else .tuple us.toArray) w := by
    have e1 : (fn.results.mapM (resOf a.tmps)).run P w = .ok us.toArray w := by
      rw [Array.mapM_eq_mapM_toList]
      simp only [Sem.run_map, hus, Result.andThen_ok]
    have e2 : results fn a.tmps = (do let vs ← fn.results.mapM (resOf a.tmps); pure (if h : vs.size = 1 then vs[0] else .tuple vs)) := by
      unfold results
      have : ∀ f : ResultVar → Sem Value, (∀ x, f x = resOf a.tmps x) → fn.results.mapM f = fn.results.mapM (resOf a.tmps) := fun f hf => by rw [funext hf]
      rw [this _ (fun x => by cases x <;> rfl)]
    rw [e2, Sem.run_bind, e1]
    rfl
  simp only at h
  -- the answer
  have hr0 : RV ρ w (packB sg vs) (if h : us.toArray.size = 1 then us.toArray[0] else .tuple us.toArray) := packB_ok hrv
  generalize packB sg vs = r0 at h hr0
  generalize hfr : (reach st.sto (2 * st.sto.length + 4) (toksV r0) []).filter (fun t => decide (base ≤ t)) = fresh at h
  have hfb : ∀ t ∈ fresh, base ≤ t := fun t ht => by
    rw [← hfr] at ht
    simpa using (List.mem_filter.1 ht).2
  split at h
  case isFalse => cases h
  rename_i hcond
  cases h
  obtain ⟨hlen, hnd, hout, hrows, hrt⟩ := hcond
  let nm : Nat → Nat := fun t => if t < base then t else base + fresh.idxOf t
  let ρ' : Gh := ⟨fun t => if t < base then ρ t else match fresh[t - base]? with | some u => ρ u | none => none, ρ.X⟩
  have at1 : ∀ t, t < base → ρ' t = ρ t := fun t ht => if_pos ht
  have at2 : ∀ i u, fresh[i]? = some u → ρ' (base + i) = ρ u := fun i u hi => by
    show (if base + i < base then ρ (base + i) else match fresh[base + i - base]? with | some u => ρ u | none => none) = ρ u
    rw [if_neg (by omega), Nat.add_sub_cancel_left, hi]
  have at3 : ∀ t k, ρ' t = some k → (t < base ∧ ρ t = some k) ∨ ∃ i u, t = base + i ∧ fresh[i]? = some u ∧ ρ u = some k := fun t k ht => by
    have ht' : (if t < base then ρ t else match fresh[t - base]? with | some u => ρ u | none => none) = some k := ht
    split at ht'
    · rename_i hlt; exact .inl ⟨hlt, ht'⟩
    · split at ht'
      · rename_i u hu; exact .inr ⟨t - base, u, by omega, hu, ht'⟩
      · cases ht'
  have hnm : ∀ t, t < base ∨ t ∈ fresh → ρ' (nm t) = ρ t := fun t ht => by
    by_cases hlt : t < base
    · show ρ' (if t < base then t else _) = _
      rw [if_pos hlt]; exact at1 t hlt
    · have hf := ht.resolve_left hlt
      show ρ' (if t < base then t else base + fresh.idxOf t) = _
      rw [if_neg hlt]
      exact at2 _ t (idx_get hf).2
  have howns : ∀ b, owns ρ' b → owns ρ b := fun b hb => by
    rcases hb with ⟨t, k, h1, h2⟩ | hb
    · rcases at3 t k h1 with ⟨_, h3⟩ | ⟨i, u, _, _, h3⟩
      · exact .inl ⟨t, k, h3, h2⟩
      · exact .inl ⟨u, k, h3, h2⟩
    · exact .inr hb
  have hsl : (st.sto.take base).length = base := by rw [List.length_take]; omega
  refine ⟨_, hrun, ρ', ?_, ⟨fun t k ht => ?_, fun t t' k k' ht ht' hbk => ?_, fun t k ht => ?_, fun t k ht => ?_, hS.old, fun t row hrow => ?_, hS.tab.sub fun b hb => by
    obtain ⟨t, k, h1, h2⟩ := hb
    rcases at3 t k h1 with ⟨_, h4⟩ | ⟨_, u, _, _, h4⟩
    · exact ⟨t, k, h4, h2⟩
    · exact ⟨u, k, h4, h2⟩⟩, ?_⟩
  · refine hr0.name (fun t ht => hnm t ?_) howns
    have := List.all_eq_true.1 hrt t ht
    simpa using this
  · rw [List.length_append, hsl, List.length_map]
    rcases at3 t k ht with ⟨h1, _⟩ | ⟨i, u, rfl, h1, _⟩
    · omega
    · have := (List.getElem?_eq_some_iff.1 h1).1; omega
  · rcases at3 t k ht with ⟨h1, h2⟩ | ⟨i, u, rfl, h1, h2⟩
    · rcases at3 t' k' ht' with ⟨h3, h4⟩ | ⟨i', u', rfl, h3, h4⟩
      · exact hS.inj t t' k k' h2 h4 hbk
      · have := hS.inj t u' k k' h2 h4 hbk
        have := hfb u' (List.mem_of_getElem? h3)
        omega
    · rcases at3 t' k' ht' with ⟨h3, h4⟩ | ⟨i', u', rfl, h3, h4⟩
      · have := hS.inj u t' k k' h2 h4 hbk
        have := hfb u (List.mem_of_getElem? h1)
        omega
      · have := hS.inj u u' k k' h2 h4 hbk
        subst this
        rw [← idx_of_get hnd h1, ← idx_of_get hnd h3]
  · rcases at3 t k ht with ⟨h1, h2⟩ | ⟨i, u, rfl, h1, h2⟩
    · exact hS.blk t k h2
    · exact hS.blk u k h2
  · rcases at3 t k ht with ⟨h1, h2⟩ | ⟨i, u, rfl, h1, h2⟩
    · exact hS.apart t k h2
    · exact hS.apart u k h2
  · rw [List.getElem?_append, hsl] at hrow
    split at hrow
    · rename_i hlt
      rw [List.getElem?_take, if_pos hlt] at hrow
      have hmem : row ∈ st.sto.take base := List.mem_of_getElem? (i := t) (by rw [List.getElem?_take, if_pos hlt]; exact hrow)
      have htk := List.all_eq_true.1 hout row hmem
      rw [at1 t hlt]
      have := (hS.row t row hrow).name (ρ' := ρ') (g := id) (fun u hu => at1 u (by simpa using List.all_eq_true.1 htk u hu)) howns
      rwa [nameR_id] at this
    · rename_i hlt
      rw [List.getElem?_map] at hrow
      obtain ⟨u, hu, rfl⟩ := Option.map_eq_some_iff.1 hrow
      have hmem := List.mem_of_getElem? hu
      have hrow2 := List.all_eq_true.1 hrows u hmem
      have e1 : ρ' t = ρ u := by
        have := at2 (t - base) u hu
        rwa [Nat.add_sub_cancel' (by omega)] at this
      rw [e1]
      cases hs : st.sto[u]? with
      | none => rw [hs] at hrow2; cases hrow2
      | some row0 =>
        rw [hs] at hrow2
        simp only [Option.getD_some]
        refine (hS.row u row0 hs).name (fun x hx' => hnm x ?_) howns
        have := List.all_eq_true.1 hrow2 x hx'
        simpa using this
  · have hF : (st.sto.take base ++ fresh.map fun t => nameR (fun t => if t < base then t else base + fresh.idxOf t) ((st.sto[t]?).getD .dead)).length - σ.length = fresh.length := by
      rw [List.length_append, hsl, List.length_map]; omega
    rw [hF]
    refine ⟨hx.os, hx.tape, hx.output, hx.size, hx.keep, fun b ⟨t, k, h1, h2⟩ => ?_, hx.X, fun t ht => ?_⟩
    · rcases at3 t k h1 with ⟨_, h3⟩ | ⟨i, u, _, _, h3⟩
      · exact hx.new b ⟨t, k, h3, h2⟩
      · exact hx.new b ⟨u, k, h3, h2⟩
    · simp only [List.mem_append, List.mem_range'_1, not_or] at ht
      by_cases hlt : t < base
      · rw [at1 t hlt]
        exact hx.tok t (fun hmm => by
          rcases hm t hmm with h | h
          · omega
          · exact ht.1 h)
      · have h1 : ρ' t = none := by
          show (if t < base then ρ t else match fresh[t - base]? with | some u => ρ u | none => none) = none
          rw [if_neg hlt, List.getElem?_eq_none (by omega)]
        rw [h1]
        cases h2 : ρ0 t with
        | none => rfl
        | some k => have := hS0.len t k h2; omega
end
end Go.Proofs.YtabdcfcnngnnoaaDoor.E
