/- Regions: operations in the order of the text. -/
import Derived.Test.YtabdcfcnngnnoaaDoorE13
set_option linter.unusedVariables false
set_option linter.unusedSimpArgs false
namespace Go.Proofs.YtabdcfcnngnnoaaDoor.E
open Go
/-- The slots. -/
structure EnvOk (ρ : Gh) (w : World) (env : List AV) (a : Act) : Prop where
  size : env.length = a.tmps.size
  defers : a.defers = []
  val : ∀ (i : Nat) (x : AV) (y : Value), env[i]? = some x → a.tmps[i]? = some y → RV ρ w x y
/-- What is kept, seen from a function: of its own tokens (from base on) nothing is said. -/
def FExt (base : Nat) (ρ0 : Gh) (w0 : World) (ρ : Gh) (w : World) (mv : List Nat) : Prop := ∃ m, Ext ρ0 w0 ρ w m ∧ ∀ t ∈ m, base ≤ t ∨ t ∈ mv
theorem FExt.refl {base : Nat} {ρ : Gh} {w : World} {mv : List Nat} : FExt base ρ w ρ w mv := ⟨[], Ext.refl _ _ _, fun t h => by simp at h⟩
theorem FExt.step {base : Nat} {ρ0 ρ ρ' : Gh} {w0 w w' : World} {mv mv' new : List Nat} (h : FExt base ρ0 w0 ρ w mv) (hx : Ext ρ w ρ' w' new) (hm : ∀ t ∈ mv, t ∈ mv') (hn : ∀ t ∈ new, base ≤ t ∨ t ∈ mv') : FExt base ρ0 w0 ρ' w' mv' := by
  obtain ⟨m, h1, h2⟩ := h
  refine ⟨m ++ new, h1.trans hx, fun t ht => ?_⟩
  rcases List.mem_append.1 ht with h | h
  · exact (h2 t h).imp id (hm t)
  · exact hn t h
theorem addMv_old {base : Nat} : ∀ (new mv : List Nat) (t : Nat), t ∈ mv → t ∈ addMv base mv new
  | [], mv, t, h => h
  | u :: new, mv, t, h => by
    unfold addMv
    rw [List.foldl_cons]
    refine addMv_old new _ t ?_
    split
    · split
      · exact h
      · exact List.mem_append_left _ h
    · exact h
theorem addMv_new {base : Nat} : ∀ (new mv : List Nat) (t : Nat), t ∈ new → base ≤ t ∨ t ∈ addMv base mv new
  | [], mv, t, h => by simp at h
  | u :: new, mv, t, h => by
    rcases List.mem_cons.1 h with rfl | h
    · by_cases hb : base ≤ t
      · exact .inl hb
      · right
        unfold addMv
        rw [List.foldl_cons, if_pos (by omega)]
        refine addMv_old new _ t ?_
        split
        · rename_i hc; simpa using hc
        · simp
    · unfold addMv
      rw [List.foldl_cons]
      exact addMv_new new _ t h
section
variable {P : Program} {o : Oper} {a : Act} {w w0 : World} {ρ ρ0 : Gh} {σ : List Row} {base : Nat} {hs : FH} {call : CallF}
theorem killE_ok {env : List AV} {ρ' : Gh} {w' : World} {mv : List Nat} (h : EnvOk ρ w env a) (hx : Ext ρ w ρ' w' mv) : EnvOk ρ' w' (killE mv env) a := by
  unfold killE
  split
  · rename_i he
    obtain rfl : mv = [] := by simpa using he
    exact ⟨h.size, h.defers, fun i x y h1 h2 => by have := (h.val i x y h1 h2).ext hx; rwa [killV_nil] at this⟩
  · refine ⟨by rw [killL_len]; exact h.size, h.defers, fun i x y h1 h2 => ?_⟩
    rw [killL_get] at h1
    obtain ⟨x0, h3, rfl⟩ := Option.map_eq_some_iff.1 h1
    exact (h.val i x0 y h3 h2).ext hx
theorem putA_ok {env : List AV} {d : Option Nat} {x : AV} {v : Value} (h : EnvOk ρ w env a) (hx : RV ρ w x v) : EnvOk ρ w (putA env d x) (a.put d v) := by
  cases d with
  | none => exact h
  | some d =>
    refine ⟨by simp [putA, Act.put, h.size], h.defers, fun i y u h1 h2 => ?_⟩
    simp only [putA, Act.put, List.getElem?_set, Array.getElem?_setIfInBounds] at h1 h2
    by_cases hi : d = i
    · subst hi
      rw [if_pos rfl] at h1 h2
      split at h1
      · split at h2
        · cases h1; cases h2; exact hx
        · cases h2
      · cases h1
    · rw [if_neg hi] at h1 h2
      exact h.val i y u h1 h2
theorem evA_ok {env : List AV} (h : EnvOk ρ w env a) (x : Operand) (v : AV) (hv : evA env x = some v) : RV ρ w v (a.eval x) := by
  cases x with
  | tmp t =>
    simp only [evA] at hv
    have ht : t < a.tmps.size := by rw [← h.size]; exact (List.getElem?_eq_some_iff.1 hv).1
    have := h.val t v a.tmps[t] hv (Array.getElem?_eq_getElem ht)
    simpa [Act.eval, ht] using this
  | const c => simp only [evA] at hv; cases hv; exact constA_ok c
  | global g => simp [evA] at hv
  | func f => simp only [evA] at hv; cases hv; exact .clo f [] #[] rfl (fun j x y h => by simp at h)
theorem guard_ok {ops : Array Oper} {env : List AV} {b : Bool} (h : EnvOk ρ w env a) (hg : guardA ops env o = some b) : Region.wanted o (yielded ops a.tmps) = b := by
  unfold guardA at hg
  unfold Region.wanted
  split at hg
  · cases hg
    rename_i hn
    rw [hn]
  · rename_i j want hn
    rw [hn]
    simp only
    split at hg
    · rename_i d hd
      unfold yielded
      rw [hd]
      simp only [Option.bind_some]
      split at hg
      · rename_i c hc
        cases hg
        have hd' : d < a.tmps.size := by rw [← h.size]; exact (List.getElem?_eq_some_iff.1 hc).1
        have := h.val d _ a.tmps[d] hc (Array.getElem?_eq_getElem hd')
        generalize hv : a.tmps[d] = v at this
        cases this
        rw [Array.getElem?_eq_getElem hd', hv]
        simp only
        cases c <;> cases want <;> rfl
      · rename_i c hc
        cases hg
        have hd' : d < a.tmps.size := by rw [← h.size]; exact (List.getElem?_eq_some_iff.1 hc).1
        have := h.val d _ a.tmps[d] hc (Array.getElem?_eq_getElem hd')
        generalize hv : a.tmps[d] = v at this
        cases this
        rw [Array.getElem?_eq_getElem hd', hv]
        simp only
        cases want <;> rfl
      · cases hg
    · cases hg
/-- A function's state, and what it stands for. -/
def Inv (base : Nat) (ρ0 : Gh) (w0 : World) (st : St) (a : Act) (w : World) : Prop := ∃ ρ, EnvOk ρ w st.env a ∧ StoOk ρ w st.sto ∧ FExt base ρ0 w0 ρ w st.mv
/-- What is known of the program, and of calls. -/
structure Known (P : Program) (call : CallF) : Prop where
  names : NamesOk P
  maps : MapsOk P
  defd : CallDef P call
  ok : CallOk P call
theorem evStep_ok (hK : Known P call) {st st' : St} {f : Fl} (h : evStep P hs call base o st = some (st', f)) (hI : Inv base ρ0 w0 st a w) : ∀ (K : Act → World → Prop) (Q : Exit → Act → World → Prop), (∀ a' w', Inv base ρ0 w0 st' a' w' → K a' w') → o.wp P a w K Q := by
  obtain ⟨ρ, he, hsto, hf⟩ := hI
  unfold evStep at h
  obtain ⟨out, ho, h⟩ := Option.map_eq_some_iff.1 h
  cases h
  intro K Q hk
  refine evOp_ok hK.names hK.maps hK.defd hK.ok hsto (fun x v hv => evA_ok he x v hv) ho K Q (fun v w' hp => ?_)
  obtain ⟨ρ', h1, h2, h3⟩ := hp
  exact hk _ _ ⟨ρ', putA_ok (killE_ok he h3) h1, h2, hf.step h3 (fun t ht => addMv_old _ _ t ht) (fun t ht => addMv_new _ _ t ht)⟩
theorem evOps_ok (hK : Known P call) {ops : Array Oper} {Q : Exit → Act → World → Prop} : ∀ (l : List Oper) (st st' : St) (ws : List Fl) (a : Act) (w : World), evOps P hs call base ops l st = some (st', ws) → Inv base ρ0 w0 st a w →
    (∀ a' w', Inv base ρ0 w0 st' a' w' → Q .normal a' w') → wpList P ops Q l a w
  | [], st, st', ws, a, w, h, hI, hq => by
    simp only [evOps] at h
    cases h
    exact hq a w hI
  | o :: r, st, st', ws, a, w, h, hI, hq => by
    simp only [evOps] at h
    split at h
    · rename_i b hg
      obtain ⟨ρ, he, h2, h3⟩ := id hI
      have hgd := guard_ok he hg
      unfold wpList
      rw [hgd]
      split at h
      · rename_i hb
        rw [if_pos hb]
        replace h := Option.bind_eq_some_iff.1 h
        obtain ⟨⟨s1, f⟩, hs1, h⟩ := h
        obtain ⟨⟨s2, ws2⟩, hs2, h⟩ := Option.map_eq_some_iff.1 h
        cases h
        exact .inl (evStep_ok hK hs1 hI _ _ (fun a' w' hI' => evOps_ok hK r s1 s2 ws2 a' w' hs2 hI' hq))
      · rename_i hb
        rw [if_neg hb]
        obtain ⟨⟨s2, ws2⟩, hs2, h⟩ := Option.map_eq_some_iff.1 h
        cases h
        exact evOps_ok hK r _ s2 ws2 _ w hs2 ⟨ρ, putA_ok he (.v _), h2, h3⟩ hq
    · cases h
end
end Go.Proofs.YtabdcfcnngnnoaaDoor.E
