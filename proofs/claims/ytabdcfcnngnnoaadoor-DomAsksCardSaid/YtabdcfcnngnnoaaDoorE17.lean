/- Regions whose order is drawn: each order comes to what the order of the text comes to. -/
import Derived.Test.YtabdcfcnngnnoaaDoorE16
set_option linter.unusedVariables false
set_option linter.unusedSimpArgs false
namespace Go.Proofs.YtabdcfcnngnnoaaDoor.E
open Go
section
variable {P : Program} {o : Oper} {a : Act} {w w0 : World} {ρ ρ0 : Gh} {σ : List Row} {base : Nat} {hs : FH} {call : CallF}
/-- One operation's step, in the order of the text. -/
def Step1 (P : Program) (hs : FH) (call : CallF) (base : Nat) (ops : Array Oper) (o : Oper) (s s' : St) (V : AV) (MV : List Nat) (W T : Bool) (FR : Option (Nat × Row)) (N : Nat) (AD ST : Option Nat) : Prop :=
  s'.env = putA (killE MV s.env) o.dst V ∧ s'.mv = addMv base s.mv MV ∧ (W = false → s'.sto = s.sto ∧ MV = []) ∧
  ((guardA ops s.env o = some true ∧ evOp P call base (ownOf hs o) (evA s.env) s.sto o.op = some ⟨V, s'.sto, MV, W⟩ ∧ (FR = none → T = touchV (ownOf hs o) (evA s.env) o.op) ∧ N = s'.sto.length ∧ AD = adOf (evA s.env) o.op ∧ ST = stOf (evA s.env) o.op ∧
    (∀ t row, FR = some (t, row) → T = false ∧ freshKind o.op = true ∧ MV = [t] ∧ W = true ∧ toksR row = [] ∧ t ∈ toksV V ∧ s'.sto = newRow t row s.sto ∧ ∀ σ', σ'.length = s.sto.length → evOp P call base (ownOf hs o) (evA s.env) σ' o.op = some ⟨V, newRow t row σ', [t], true⟩)) ∨
   (guardA ops s.env o = some false ∧ V = undefA ∧ MV = [] ∧ W = false ∧ T = false ∧ FR = none ∧ AD = none ∧ ST = none))
theorem trace {ops : Array Oper} : ∀ (l : List Oper) (st st' : St) (ws : List Fl), evOps P hs call base ops l st = some (st', ws) →
    ∃ (S : Nat → St) (V : Nat → AV) (MV : Nat → List Nat) (W T : Nat → Bool) (FR : Nat → Option (Nat × Row)) (N : Nat → Nat) (AD ST : Nat → Option Nat), S 0 = st ∧ S l.length = st' ∧ ws.length = l.length ∧ (∀ (i : Nat) (f : Fl), ws[i]? = some f → f = ⟨W i, MV i, V i, T i, FR i, N i, AD i, ST i⟩) ∧ ∀ i o, l[i]? = some o → Step1 P hs call base ops o (S i) (S (i + 1)) (V i) (MV i) (W i) (T i) (FR i) (N i) (AD i) (ST i)
  | [], st, st', ws, h => by
    simp only [evOps] at h
    cases h
    exact ⟨fun _ => st, fun _ => .dead, fun _ => [], fun _ => false, fun _ => false, fun _ => none, fun _ => 0, fun _ => none, fun _ => none, rfl, rfl, rfl, fun i f h => by simp at h, fun i o h => by simp at h⟩
  | o :: r, st, st', ws, h => by
    have cons : ∀ {s1 : St} {f : Fl} {ws2 : List Fl} {V0 : AV} {MV0 : List Nat} {W0 T0 : Bool} {FR0 : Option (Nat × Row)} {N0 : Nat} {AD0 ST0 : Option Nat}, evOps P hs call base ops r s1 = some (st', ws2) → f = ⟨W0, MV0, V0, T0, FR0, N0, AD0, ST0⟩ → Step1 P hs call base ops o st s1 V0 MV0 W0 T0 FR0 N0 AD0 ST0 →
        ∃ (S : Nat → St) (V : Nat → AV) (MV : Nat → List Nat) (W T : Nat → Bool) (FR : Nat → Option (Nat × Row)) (N : Nat → Nat) (AD ST : Nat → Option Nat), S 0 = st ∧ S (o :: r).length = st' ∧ (f :: ws2).length = (o :: r).length ∧ (∀ (i : Nat) (g : Fl), (f :: ws2)[i]? = some g → g = ⟨W i, MV i, V i, T i, FR i, N i, AD i, ST i⟩) ∧ ∀ i o', (o :: r)[i]? = some o' → Step1 P hs call base ops o' (S i) (S (i + 1)) (V i) (MV i) (W i) (T i) (FR i) (N i) (AD i) (ST i) := by
      intro s1 f ws2 V0 MV0 W0 T0 FR0 N0 AD0 ST0 h2 hf hst
      obtain ⟨S, V, MV, W, T, FR, N, AD, ST, e0, en, hl, hw, hstep⟩ := trace r s1 st' ws2 h2
      refine ⟨fun | 0 => st | i + 1 => S i, fun | 0 => V0 | i + 1 => V i, fun | 0 => MV0 | i + 1 => MV i, fun | 0 => W0 | i + 1 => W i, fun | 0 => T0 | i + 1 => T i, fun | 0 => FR0 | i + 1 => FR i, fun | 0 => N0 | i + 1 => N i, fun | 0 => AD0 | i + 1 => AD i, fun | 0 => ST0 | i + 1 => ST i, rfl, en, by simp [hl], fun i g hg => ?_, fun i o' ho => ?_⟩
      · cases i with
        | zero => simp at hg; subst hg; exact hf
        | succ i => exact hw i g (by simpa using hg)
      · cases i with
        | zero => simp at ho; subst ho; simp only; rw [e0]; exact hst
        | succ i => exact hstep i o' (by simpa using ho)
    simp only [evOps] at h
    split at h
    case h_2 => cases h
    rename_i b hg
    split at h
    · rename_i hb
      subst hb
      replace h := Option.bind_eq_some_iff.1 h
      obtain ⟨⟨s1, f⟩, hs1, h⟩ := h
      obtain ⟨⟨s2, ws2⟩, hs2, h⟩ := Option.map_eq_some_iff.1 h
      cases h
      unfold evStep at hs1
      obtain ⟨out, ho, hs1⟩ := Option.map_eq_some_iff.1 hs1
      cases hs1
      refine cons hs2 rfl ⟨rfl, rfl, fun hw => evOp_w ho hw, .inl ⟨hg, ho, fun hfr => by rw [hfr]; simp, rfl, rfl, rfl, fun t row hfr => ?_⟩⟩
      obtain ⟨q1, q2, q3, q4, q5⟩ := frOf_spec ho hfr
      have hk : freshKind o.op = true := by
        unfold frOf at hfr
        split at hfr
        · split at hfr
          · rename_i hc; exact hc.1
          · cases hfr
        · cases hfr
      have h6 := q5 st.sto rfl
      rw [ho] at h6
      have h7 := congrArg Out.sto (Option.some.inj h6)
      exact ⟨by rw [hfr]; simp, hk, q1, q2, q3, q4, h7, q5⟩
    · rename_i hb
      have hb' : b = false := by simpa using hb
      subst hb'
      obtain ⟨⟨s2, ws2⟩, hs2, h⟩ := Option.map_eq_some_iff.1 h
      cases h
      exact cons (V0 := undefA) (MV0 := []) (W0 := false) (T0 := false) (FR0 := none) (N0 := 0) (AD0 := none) (ST0 := none) hs2 rfl ⟨by simp [killE], rfl, fun _ => ⟨rfl, rfl⟩, .inr ⟨hg, rfl, rfl, rfl, rfl, rfl, rfl, rfl⟩⟩
theorem guardA_congr {ops : Array Oper} {env env' : List AV} (h : ∀ t ∈ looksA ops o, env[t]? = env'[t]?) : guardA ops env o = guardA ops env' o := by
  unfold guardA
  cases hg : o.guard with
  | none => rfl
  | some g =>
    obtain ⟨j, want⟩ := g
    simp only
    cases hd : (ops[j]?).bind (·.dst) with
    | none => rfl
    | some d =>
      simp only
      rw [h d (by unfold looksA; rw [hg]; simp [hd])]
theorem evA_congr {ops : Array Oper} {env env' : List AV} (h : ∀ t ∈ looksA ops o, env[t]? = env'[t]?) : ∀ x ∈ o.op.operands.toList, evA env x = evA env' x := fun x hx => by
  cases x with
  | tmp t => exact h t (by unfold looksA; exact List.mem_append_left _ (List.mem_filterMap.2 ⟨.tmp t, hx, rfl⟩))
  | _ => rfl
theorem zipIdx_split {l : List Oper} {i : Nat} {o : Oper} (h : l[i]? = some o) : ∃ l1 l2, l.zipIdx = l1 ++ (o, i) :: l2 ∧ (∀ x ∈ l1, x.2 < i) ∧ ∀ x ∈ l2, i < x.2 := by
  obtain ⟨hi, rfl⟩ := List.getElem?_eq_some_iff.1 h
  refine ⟨l.zipIdx.take i, l.zipIdx.drop (i + 1), ?_, fun x hx => ?_, fun x hx => ?_⟩
  · have hz : i < l.zipIdx.length := by simpa using hi
    have e : l.zipIdx[i] = (l[i], i) := by simp
    rw [← e, ← List.drop_eq_getElem_cons hz, List.take_append_drop]
  · obtain ⟨j, hj⟩ := List.getElem?_of_mem hx
    rw [List.getElem?_take] at hj
    split at hj
    · rw [List.getElem?_zipIdx] at hj
      obtain ⟨_, _, rfl⟩ := Option.map_eq_some_iff.1 hj
      simp; omega
    · cases hj
  · obtain ⟨j, hj⟩ := List.getElem?_of_mem hx
    rw [List.getElem?_drop, List.getElem?_zipIdx] at hj
    obtain ⟨_, _, rfl⟩ := Option.map_eq_some_iff.1 hj
    simp; omega
theorem mem_zipIdx {l : List Oper} {x : Oper × Nat} (h : x ∈ l.zipIdx) : l[x.2]? = some x.1 := by
  have := List.mem_zipIdx_iff_getElem?.1 h
  exact this
theorem selE_commute {MV : Nat → List Nat} {V : Nat → AV} {b : Nat → Bool} {d : Option Nat} {v : AV} {mv : List Nat} : ∀ (l : List (Oper × Nat)) (env : List AV), (∀ x ∈ l, b x.2 = true → killV (MV x.2) v = v ∧ killV mv (V x.2) = V x.2 ∧ ∀ t, x.1.dst = some t → d ≠ some t) →
    putA (killE mv (selE MV V b l env)) d v = selE MV V b l (putA (killE mv env) d v)
  | [], env, _ => rfl
  | x :: r, env, h => by
    unfold selE
    split
    · rename_i hb
      obtain ⟨h1, h2, h3⟩ := h x (by simp) hb
      rw [selE_commute r _ (fun y hy => h y (by simp [hy])), killE_put, killE_put, h1, h2, killE_comm]
      congr 1
      cases hd : x.1.dst with
      | none => rfl
      | some t =>
        cases d with
        | none => rfl
        | some u =>
          have := h3 t hd
          have hne : u ≠ t := fun e => this (by rw [e])
          simp only [putA]
          exact List.set_comm _ _ (fun e => hne e.symm)
    · exact selE_commute r _ (fun y hy => h y (by simp [hy]))
def isStore : Op → Bool
  | .store .. => true
  | _ => false
def isStoreAt (ops : Array Oper) (i : Nat) : Bool := match ops.toList[i]? with | some o => isStore o.op | none => false
open Classical in
/-- What an operation does to memory. -/
noncomputable def updO (ops : Array Oper) (FR : Nat → Option (Nat × Row)) (S : Nat → St) (i : Nat) (s : List Row) : List Row :=
  match FR i with
  | some (t, row) => newRow t row s
  | none => if isStoreAt ops i = true then (if s = (S i).sto then (S (i + 1)).sto else s) else (S (i + 1)).sto
theorem updO_none {ops : Array Oper} {FR : Nat → Option (Nat × Row)} {S : Nat → St} {i : Nat} {s : List Row} (h : FR i = none) (hs : s = (S i).sto ∨ isStoreAt ops i = false) : updO ops FR S i s = (S (i + 1)).sto := by
  unfold updO
  rw [h]
  simp only
  rcases hs with hs | hs
  · rw [if_pos hs]; split <;> rfl
  · rw [if_neg (by rw [hs]; simp)]
theorem updO_text {ops : Array Oper} {S : Nat → St} {o : Oper} {i : Nat} {V : AV} {MV : List Nat} {W T : Bool} {FR : Nat → Option (Nat × Row)} {N : Nat} {AD ST : Option Nat} (h : Step1 P hs call base ops o (S i) (S (i + 1)) V MV W T (FR i) N AD ST) : W = true → updO ops FR S i (S i).sto = (S (i + 1)).sto := fun hW => by
  cases hfr : FR i with
  | some q =>
    unfold updO
    rw [hfr]
    rcases h.2.2.2 with ⟨_, _, _, _, _, _, h5⟩ | ⟨_, _, _, h5, _⟩
    · exact (h5 q.1 q.2 hfr).2.2.2.2.2.2.1.symm
    · rw [hW] at h5; cases h5
  | none => exact updO_none hfr (.inl rfl)
/-- The slots as the text's order leaves them ahead of operation i. -/
theorem selE_text {ops : Array Oper} {S : Nat → St} {V : Nat → AV} {MV : Nat → List Nat} {W T : Nat → Bool} {FR : Nat → Option (Nat × Row)} {N : Nat → Nat} {AD ST : Nat → Option Nat} {l : List Oper} (hstep : ∀ i o, l[i]? = some o → Step1 P hs call base ops o (S i) (S (i + 1)) (V i) (MV i) (W i) (T i) (FR i) (N i) (AD i) (ST i)) : ∀ i, i ≤ l.length →
    selE MV V (fun j => decide (j < i)) l.zipIdx (S 0).env = (S i).env ∧ selM (updO ops FR S) W (fun j => decide (j < i)) l.zipIdx (S 0).sto = (S i).sto := by
  intro i
  induction i with
  | zero =>
    intro _
    exact ⟨selE_none _ _ (fun x _ => by simp), selM_none _ _ (fun x _ h => by simp at h)⟩
  | succ i ih =>
    intro hi
    obtain ⟨h1, h2⟩ := ih (by omega)
    have ho : l[i]? = some l[i] := List.getElem?_eq_getElem (by omega)
    obtain ⟨l1, l2, hz, hl1, hl2⟩ := zipIdx_split ho
    obtain ⟨g1, g2, g3, g4⟩ := hstep i _ ho
    rw [hz] at h1 h2 ⊢
    rw [selE_append] at h1 ⊢
    rw [selM_append] at h2 ⊢
    have e1 : selE MV V (fun j => decide (j < i + 1)) l1 (S 0).env = selE MV V (fun j => decide (j < i)) l1 (S 0).env :=
      selE_same l1 _ (fun x hx => by have := hl1 x hx; simp only [decide_eq_decide]; omega)
    have e2 : selM (updO ops FR S) W (fun j => decide (j < i + 1)) l1 (S 0).sto = selM (updO ops FR S) W (fun j => decide (j < i)) l1 (S 0).sto :=
      selM_agree l1 _ (fun x hx hne => absurd (by have := hl1 x hx; simp only [decide_eq_decide]; omega) hne)
    rw [e1, e2]
    unfold selE at h1
    unfold selM at h2
    unfold selE selM
    simp only [Nat.lt_irrefl, decide_false, Bool.false_and, Bool.false_eq_true, if_false] at h1 h2
    rw [selE_none l2 _ (fun x hx => by have := hl2 x hx; simp; omega)] at h1 ⊢
    rw [selM_none l2 _ (fun x hx hb => by have := hl2 x hx; simp at hb; omega)] at h2 ⊢
    rw [h1, h2]
    refine ⟨?_, ?_⟩
    · rw [if_pos (by simp), g1]
    · cases hw : W i with
      | true =>
        simp only [Bool.and_true]
        rw [if_pos (by simp)]
        exact updO_text ⟨g1, g2, g3, g4⟩ hw
      | false => simp [(g3 hw).1]
/-- An operation has nothing to do with these tokens. -/
def Far (ops : Array Oper) (env : List AV) (V : Nat → AV) (mv : List Nat) (j : Nat) (y : Oper) : Prop :=
  apart mv (V j) = true ∧ ∀ s ∈ looksA ops y, (∀ x, env[s]? = some x → apart mv x = true) ∧ ∀ (k : Nat) z, ops.toList[k]? = some z → z.dst = some s → apart mv (V k) = true
theorem Far.nil {ops : Array Oper} {env : List AV} {V : Nat → AV} {j : Nat} {y : Oper} : Far ops env V [] j y := ⟨apart_none _, fun s _ => ⟨fun x _ => apart_none x, fun k z _ _ => apart_none _⟩⟩
theorem freeOf_spec {ops : Array Oper} {env : List AV} {ws : List Fl} {mv : List Nat} {j : Nat} {y : Oper} {V : Nat → AV} {W T : Nat → Bool} {FR : Nat → Option (Nat × Row)} {N : Nat → Nat} {AD ST : Nat → Option Nat} {MV : Nat → List Nat} (hl : ws.length = ops.toList.length) (hw : ∀ (i : Nat) (f : Fl), ws[i]? = some f → f = ⟨W i, MV i, V i, T i, FR i, N i, AD i, ST i⟩) (hj : j < ws.length) (h : freeOf ops env ws mv j y = true) : Far ops env V mv j y := by
  have wv : ∀ k, k < ws.length → (ws.getD k noFl).v = V k := fun k hk => by
    rw [List.getD_eq_getElem?_getD, List.getElem?_eq_getElem hk, Option.getD_some, hw k _ (List.getElem?_eq_getElem hk)]
  unfold freeOf at h
  rw [Bool.and_eq_true, wv j hj] at h
  refine ⟨h.1, fun s hs => ?_⟩
  have h2 := List.all_eq_true.1 h.2 s hs
  rw [Bool.and_eq_true] at h2
  refine ⟨fun x hx => by have := h2.1; rw [hx] at this; exact this, fun k z hz hd => ?_⟩
  have h3 := List.all_eq_true.1 h2.2 (z, k) (List.mem_zipIdx_iff_getElem?.2 hz)
  have hk : k < ws.length := by have := (List.getElem?_eq_some_iff.1 hz).1; omega
  simp only [hd, wv k hk, beq_self_eq_true, Bool.not_true, Bool.false_or] at h3
  exact h3
/-- A store, and an address of an element. -/
def Mild (x y : Oper) (mv : List Nat) : Prop := (∃ t a v, x.op = .store t a v) ∧ (∃ t a v, y.op = .indexAddr t a v) ∧ mv = []
theorem mild_spec {x y : Oper} {f : Fl} (h : mild x y f = true) : Mild x y f.mv := by
  unfold mild at h
  split at h
  · rename_i h1 h2
    exact ⟨⟨_, _, _, h1⟩, ⟨_, _, _, h2⟩, by simpa using h⟩
  · cases h
/-- A new row, and a look at another one. -/
def Calm (fr : Option (Nat × Row)) (ad : Option Nat) (v : AV) : Prop := ∃ u row t, fr = some (u, row) ∧ ad = some t ∧ t ≠ u ∧ apart [u] v = true ∧ noDeadV v = true
/-- A store into a row, and a look at another one. -/
def Else (st : Option Nat) (ad : Option Nat) (mv : List Nat) : Prop := ∃ k t, st = some k ∧ ad = some t ∧ t ≠ k ∧ mv = []
theorem calm_spec {f g : Fl} (h : calm f g = true) : Calm f.fr g.ad g.v ∨ Else f.st g.ad f.mv := by
  unfold calm at h
  split at h
  · rename_i h1 h2
    simp only [Bool.and_eq_true, Bool.not_eq_true', beq_eq_false_iff_ne] at h
    exact .inl ⟨_, _, _, h1, h2, h.1.1, h.1.2, h.2⟩
  · rename_i h1 h2
    split at h
    · rename_i k hk
      simp only [Bool.and_eq_true, Bool.not_eq_true', beq_eq_false_iff_ne, List.isEmpty_iff] at h
      exact .inr ⟨_, _, hk, h2, h.1, h.2⟩
    · cases h
  · cases h
theorem clash_spec {ops : Array Oper} {env : List AV} {ws : List Fl} {i j : Nat} {x y : Oper} {V : Nat → AV} {W T : Nat → Bool} {FR : Nat → Option (Nat × Row)} {N : Nat → Nat} {AD ST : Nat → Option Nat} {MV : Nat → List Nat} (hl : ws.length = ops.toList.length) (hw : ∀ (i : Nat) (f : Fl), ws[i]? = some f → f = ⟨W i, MV i, V i, T i, FR i, N i, AD i, ST i⟩) (hi : i < ws.length) (hj : j < ws.length) (h : clash ops env ws i j x y = false) :
    (∀ d, x.dst = some d → d ∉ looksA ops y ∧ y.dst ≠ some d) ∧ (∀ d, y.dst = some d → d ∉ looksA ops x) ∧ (W i = true → T j = false ∨ Mild x y (MV i) ∨ Calm (FR i) (AD j) (V j) ∨ Else (ST i) (AD j) (MV i)) ∧ (W j = true → T i = false ∨ immune x y = true ∨ Mild y x (MV j) ∨ Calm (FR j) (AD i) (V i) ∨ Else (ST j) (AD i) (MV j)) ∧ Far ops env V (MV i) j y ∧ Far ops env V (MV j) i x := by
  have wi : ws.getD i noFl = ⟨W i, MV i, V i, T i, FR i, N i, AD i, ST i⟩ := by
    rw [List.getD_eq_getElem?_getD, List.getElem?_eq_getElem hi, Option.getD_some]
    exact hw i _ (List.getElem?_eq_getElem hi)
  have wj : ws.getD j noFl = ⟨W j, MV j, V j, T j, FR j, N j, AD j, ST j⟩ := by
    rw [List.getD_eq_getElem?_getD, List.getElem?_eq_getElem hj, Option.getD_some]
    exact hw j _ (List.getElem?_eq_getElem hj)
  unfold clash at h
  rw [wi, wj] at h
  simp only [Bool.or_eq_false_iff, Bool.and_eq_false_iff] at h
  obtain ⟨⟨⟨⟨⟨h1, h2⟩, h3⟩, h4⟩, h5⟩, h6⟩ := h
  refine ⟨fun d hd => ?_, fun d hd => ?_, fun hW => ?_, fun hW => ?_, ?_, ?_⟩
  · rw [hd] at h1
    simp only [Bool.or_eq_false_iff] at h1
    exact ⟨by simpa using h1.1, by simpa using h1.2⟩
  · rw [hd] at h2
    simpa using h2
  · rcases h3 with h | h
    · rw [hW] at h; cases h
    · rcases h with h | h
      · exact .inl h
      · rw [Bool.not_eq_false', Bool.or_eq_true] at h
        rcases h with h | h
        · exact .inr (.inl (mild_spec h))
        · exact .inr (.inr (calm_spec h))
  · rcases h4 with h | h
    · rw [hW] at h; cases h
    · rcases h with h | h
      · exact .inl h
      · rw [Bool.not_eq_false', Bool.or_eq_true] at h
        rcases h with h | h
        · exact .inr (.inl h)
        · rw [Bool.or_eq_true] at h
          rcases h with h | h
          · exact .inr (.inr (.inl (mild_spec h)))
          · exact .inr (.inr (.inr (calm_spec h)))
  · rcases h5 with h | h
    · have : MV i = [] := by simpa using h
      rw [this]; exact Far.nil
    · exact freeOf_spec hl hw hj (by simpa using h)
  · rcases h6 with h | h
    · have : MV j = [] := by simpa using h
      rw [this]; exact Far.nil
    · exact freeOf_spec hl hw hi (by simpa using h)
theorem entL_val (key key' : List Int) (z : Value) : ∀ L : List (List Int × Value), (valL key' (entL key z L)).getD z = (valL key' L).getD z
  | [] => by
    simp only [entL, valL]
    split <;> rfl
  | p :: r => by
    simp only [entL]
    split
    · rfl
    · simp only [valL]
      split
      · rfl
      · exact entL_val key key' z r
theorem atMap_spec {t : TypeId} {σ : List Row} {m x : AV} {q : Nat × (Bool × List IntKind) × List (List Int × Value) × List Int × Value} (h : atMap P t σ m x = some q) :
    m = .mp q.1 ∧ mapTy P t = some (q.2.1, q.2.2.2.2) ∧ σ[q.1]? = some (.map q.2.1 q.2.2.1) ∧ keyA q.2.1 x = some q.2.2.2.1 := by
  unfold atMap at h
  obtain ⟨r, hr, h⟩ := Option.bind_eq_some_iff.1 h
  cases m with
  | mp k =>
    simp only at h
    split at h
    · rename_i kd L hs
      split at h
      · rename_i hk
        obtain ⟨key, hkey, rfl⟩ := Option.map_eq_some_iff.1 h
        subst hk
        exact ⟨rfl, hr, hs, hkey⟩
      · cases h
    · cases h
  | _ => cases h
theorem atMap_of {t : TypeId} {σ : List Row} {k : Nat} {x : AV} {kd : Bool × List IntKind} {L : List (List Int × Value)} {key : List Int} {z : Value} (h1 : mapTy P t = some (kd, z)) (h2 : σ[k]? = some (.map kd L)) (h3 : keyA kd x = some key) :
    atMap P t σ (.mp k) x = some (k, kd, L, key, z) := by
  unfold atMap
  rw [h1]
  simp only [Option.bind_some, h2, if_true, h3, Option.map_some]
/-- What is looked up is the same. -/
def Look (P : Program) (t : TypeId) (σ σ' : List Row) : Prop := ∀ m x r, lookupA P t σ m x false = some r → lookupA P t σ' m x false = some r
theorem Look.refl (P : Program) (t : TypeId) (σ : List Row) : Look P t σ σ := fun _ _ _ h => h
theorem Look.trans {t : TypeId} {σ σ1 σ2 : List Row} (h : Look P t σ σ1) (g : Look P t σ1 σ2) : Look P t σ σ2 := fun m x r hr => g m x r (h m x r hr)
theorem Look.entry {t : TypeId} {σ : List Row} {m x : AV} {out : Out} (h : mapEntryA P t σ m x = some out) : Look P t σ out.sto := fun m' x' r hr => by
  unfold mapEntryA at h
  obtain ⟨⟨k, kd, L, key, z⟩, hq, h⟩ := Option.bind_eq_some_iff.1 h
  obtain ⟨_, ht, hs, _⟩ := atMap_spec hq
  simp only at h ht hs
  split at h
  · cases h
    unfold lookupA at hr ⊢
    obtain ⟨⟨k', kd', L', key', z'⟩, hq', hr⟩ := Option.bind_eq_some_iff.1 hr
    obtain ⟨hm, ht', hs', hk'⟩ := atMap_spec hq'
    simp only at hr hm ht' hs' hk'
    rw [ht] at ht'
    simp only [Option.some.injEq, Prod.mk.injEq] at ht'
    obtain ⟨rfl, rfl⟩ := ht'
    subst hm
    by_cases e : k = k'
    · subst e
      rw [hs] at hs'
      simp only [Option.some.injEq, Row.map.injEq, true_and] at hs'
      subst hs'
      have hlt := (List.getElem?_eq_some_iff.1 hs).1
      have hnew : (σ.set k (.map kd (entL key z L)))[k]? = some (.map kd (entL key z L)) := by simp [hlt]
      rw [atMap_of ht hnew hk']
      simp only [Option.bind_some]
      split at hr
      · rename_i hg
        rw [if_pos hg]
        simp only [Bool.false_eq_true, if_false] at hr ⊢
        rw [entL_val]
        exact hr
      · cases hr
    · have hnew : (σ.set k (.map kd (entL key z L)))[k']? = some (.map kd L') := by rw [List.getElem?_set, if_neg e]; exact hs'
      rw [atMap_of ht hnew hk']
      first | (rw [atMap_of ht hs' hk'] at hr; exact hr) | exact hr
  · cases h
theorem addMv_chain {S : Nat → St} {n : Nat} {MV : Nat → List Nat} (h : ∀ i, i < n → (S (i + 1)).mv = addMv base (S i).mv (MV i)) : ∀ i, i ≤ n → ∀ t ∈ (S i).mv, t ∈ (S n).mv := by
  intro i hi
  obtain ⟨k, rfl⟩ : ∃ k, n = i + k := ⟨n - i, by omega⟩
  induction k with
  | zero => intro t ht; exact ht
  | succ k ih =>
    intro t ht
    have := ih (fun j hj => h j (by omega)) (by omega) t ht
    have e := h (i + k) (by omega)
    rw [show i + (k + 1) = i + k + 1 from by omega, e]
    exact addMv_old _ _ t this
/-- A region of open order. -/
theorem draw_ok (hK : Known P call) (hm : P.follows .mixedOrders = true) {ops : Array Oper} {Q : Exit → Act → World → Prop} {st st' : St} {ws : List Fl} {id : Nat} (h : evOps P hs call base ops ops.toList st = some (st', ws)) (hd : drawOk ops st.env st.sto.length ws = true) (hI : Inv base ρ0 w0 st a w)
    (hq : ∀ a' w', Inv base ρ0 w0 st' a' w' → Q .normal a' w') : (Code.region id ops true).wp P Q a w := by
  obtain ⟨S, V, MV, W, T, FR, N, AD, ST, hS0, hSn, hwl, hw, hstep⟩ := trace ops.toList st st' ws h
  unfold drawOk at hd
  simp only [Bool.and_eq_true] at hd
  obtain ⟨⟨hd0, hd1⟩, hd2⟩ := hd
  have hedge : ∀ (j : Nat) o, ops.toList[j]? = some o → ∀ e ∈ o.after.toList, Region.binds .any e = true → e.on < j := fun j o ho e he hb => by
    have h1 := List.all_eq_true.1 hd1 (o, j) (List.mem_zipIdx_iff_getElem?.2 ho)
    have h2 := List.all_eq_true.1 h1 e he
    rw [hb] at h2
    simpa using h2
  have hcl : ∀ (i j : Nat) x y, ops.toList[i]? = some x → ops.toList[j]? = some y → i < j → clash ops st.env ws i j x y = false ∨ ((bitsL ops.toList []).getD j 0).testBit i = true := fun i j x y hx hy hij => by
    have h1 := List.all_eq_true.1 hd2 (y, j) (List.mem_zipIdx_iff_getElem?.2 hy)
    have h2 := List.all_eq_true.1 h1 (x, i) (List.mem_zipIdx_iff_getElem?.2 hx)
    simp only [Bool.or_eq_true, decide_eq_true_eq, Bool.not_eq_true'] at h2
    rcases h2 with (h2 | h2) | h2
    · omega
    · exact .inl h2
    · exact .inr h2
  clear hd1 hd2
  have hn : ops.toList.length = ops.size := Array.length_toList
  have hmv : ∀ i, i ≤ ops.toList.length → ∀ t ∈ (S i).mv, t ∈ st'.mv := fun i hi t ht => by
    rw [← hSn]
    exact addMv_chain (base := base) (S := S) (MV := MV) (fun i hi => (hstep i _ (List.getElem?_eq_getElem hi)).2.1) i hi t ht
  have wsAt : ∀ i, i < ops.toList.length → ∃ f ∈ ws, f = ⟨W i, MV i, V i, T i, FR i, N i, AD i, ST i⟩ := fun i hi => by
    have hi' : i < ws.length := by omega
    exact ⟨ws[i], List.getElem_mem hi', hw i _ (List.getElem?_eq_getElem hi')⟩
  have hlen : ∀ j, j ≤ ops.toList.length → (S j).sto.length = st.sto.length := by
    intro j
    induction j with
    | zero => intro _; rw [hS0]
    | succ j ih =>
      intro hj
      obtain ⟨g1, g2, g3, g4⟩ := hstep j _ (List.getElem?_eq_getElem (show j < ops.toList.length by omega))
      cases hW : W j with
      | false => rw [(g3 hW).1]; exact ih (by omega)
      | true =>
        obtain ⟨f, hf, he⟩ := wsAt j (by omega)
        have h1 := List.all_eq_true.1 hd0 f hf
        rw [he, hW] at h1
        have h2 : N j = st.sto.length := by simpa using h1
        rcases g4 with ⟨_, _, _, g5, _⟩ | ⟨_, _, _, g5, _⟩
        · rw [← g5, h2]
        · rw [hW] at g5; cases g5
  have upLen : ∀ j, j < ops.toList.length → ∀ s : List Row, s.length = st.sto.length → (updO ops FR S j s).length = st.sto.length := fun j hj s hs => by
    unfold updO
    split
    · rw [newRow_len, hs]
    · split
      · split
        · exact hlen (j + 1) (by omega)
        · exact hs
      · exact hlen (j + 1) (by omega)
  have memLen : ∀ i, i < ops.toList.length → ∀ b : Nat → Bool, (selM (updO ops FR S) W b ops.toList.zipIdx st.sto).length = (S i).sto.length := fun i hi b => by
    rw [hlen i (by omega)]
    refine selM_len _ _ rfl (fun x hx _ s hs => ?_)
    exact upLen x.2 (List.getElem?_eq_some_iff.1 (mem_zipIdx hx)).1 s hs
  let E : (Nat → Bool) → List AV := fun b => selE MV V b ops.toList.zipIdx st.env
  let M : (Nat → Bool) → List Row := fun b => selM (updO ops FR S) W b ops.toList.zipIdx st.sto
  let I : (Nat → Bool) → Act → World → Prop := fun b a w => ∃ ρ, EnvOk ρ w (E b) a ∧ StoOk ρ w (M b) ∧ FExt base ρ0 w0 ρ w st'.mv
  -- one step
  have key : ∀ (b : Nat → Bool) (i : Nat) (o : Oper) (a : Act) (w : World), ops.toList[i]? = some o → Down ops b → b i = false → (∀ e ∈ o.after.toList, Region.binds .any e = true → b e.on = true) → I b a w →
      ∀ (K : Act → World → Prop), (∀ a' w', I (fun j => if j = i then true else b j) a' w' → K a' w') → if Region.wanted o (yielded ops a.tmps) then o.wp P a w K Q else K (a.put o.dst undef) w := by
    intro b i o a w ho hdn hbi hdep hI K hKK
    obtain ⟨ρ, he, hsto, hf⟩ := hI
    have hil : i < ops.toList.length := (List.getElem?_eq_some_iff.1 ho).1
    -- what is in order with i
    have lo : ∀ x ∈ ops.toList.zipIdx, x.2 < i → b x.2 = false → clash ops st.env ws x.2 i x.1 o = false := fun x hx hlt hb => by
      rcases hcl x.2 i x.1 o (mem_zipIdx hx) ho hlt with h | h
      · exact h
      · rw [down_bits hedge hdn i o ho hdep x.2 h] at hb; cases hb
    have hi : ∀ x ∈ ops.toList.zipIdx, i < x.2 → b x.2 = true → clash ops st.env ws i x.2 o x.1 = false := fun x hx hlt hb => by
      rcases hcl i x.2 o x.1 ho (mem_zipIdx hx) hlt with h | h
      · exact h
      · have := down_bits hedge hdn x.2 x.1 (mem_zipIdx hx) (hdn x.2 x.1 (mem_zipIdx hx) hb) i h
        rw [hbi] at this; cases this
    have hwi : i < ws.length := by omega
    have hwx : ∀ x ∈ ops.toList.zipIdx, x.2 < ws.length := fun x hx => by
      have := (List.getElem?_eq_some_iff.1 (mem_zipIdx hx)).1
      omega
    obtain ⟨s1, s2⟩ := selE_text hstep i (by omega)
    rw [hS0] at s1 s2
    -- the slots that it looks at are as in the text's order
    have part : ∀ x ∈ ops.toList.zipIdx, b x.2 ≠ decide (x.2 < i) → (x.2 < i ∧ b x.2 = false) ∨ (i < x.2 ∧ b x.2 = true) := fun x hx hne => by
      rcases Nat.lt_trichotomy x.2 i with h | h | h
      · left; refine ⟨h, ?_⟩
        cases hb : b x.2 with
        | false => rfl
        | true => rw [hb] at hne; simp [h] at hne
      · rw [h, hbi] at hne; simp at hne
      · right; refine ⟨h, ?_⟩
        cases hb : b x.2 with
        | true => rfl
        | false => rw [hb] at hne; have : ¬ x.2 < i := by omega
                   simp [this] at hne
    have looks : ∀ t ∈ looksA ops o, (E b)[t]? = (S i).env[t]? := fun t ht => by
      rw [← s1]
      have far : ∀ x ∈ ops.toList.zipIdx, b x.2 ≠ decide (x.2 < i) → x.1.dst ≠ some t ∧ Far ops st.env V (MV x.2) i o := fun x hx hne => by
        rcases part x hx hne with ⟨h1, h2⟩ | ⟨h1, h2⟩
        · obtain ⟨c1, c2, c3, c4, c5, c6⟩ := clash_spec hwl hw (hwx x hx) hwi (lo x hx h1 h2)
          exact ⟨fun hd => (c1 t hd).1 ht, c5⟩
        · obtain ⟨c1, c2, c3, c4, c5, c6⟩ := clash_spec hwl hw hwi (hwx x hx) (hi x hx h1 h2)
          exact ⟨fun hd => c2 t hd ht, c6⟩
      refine selE_agree (A := fun y => ∀ x ∈ ops.toList.zipIdx, b x.2 ≠ decide (x.2 < i) → apart (MV x.2) y = true) (fun mv y hy x hx hne => apart_killed mv (hy x hx hne)) _ _ _ rfl rfl (fun y hy x hx hne => ((far x hx hne).2.2 t ht).1 y hy) (fun z hz hd x hx hne => ((far x hx hne).2.2 t ht).2 z.2 z.1 (mem_zipIdx hz) hd) (fun x hx hne => ⟨(far x hx hne).1, fun y hy => apart_kill (hy x hx hne)⟩)
    have mem : T i = true → AD i = none → (∀ t a v, o.op ≠ .indexAddr t a v) → (∀ x ∈ ops.toList.zipIdx, i < x.2 → b x.2 = true → W x.2 = true → immune o x.1 = false) → M b = (S i).sto := fun ht had hni him => by
      rw [← s2]
      refine selM_agree _ _ (fun x hx hne => ?_)
      rcases part x hx hne with ⟨h1, h2⟩ | ⟨h1, h2⟩
      · obtain ⟨c1, c2, c3, c4, c5, c6⟩ := clash_spec hwl hw (hwx x hx) hwi (lo x hx h1 h2)
        cases hW : W x.2 with
        | false => rfl
        | true =>
          rcases c3 hW with h3 | ⟨_, ⟨t, a, v, h3⟩, _⟩ | ⟨_, _, _, _, h3, _⟩ | ⟨_, _, _, h3, _⟩
          · rw [h3] at ht; cases ht
          · exact absurd h3 (hni t a v)
          · rw [had] at h3; cases h3
          · rw [had] at h3; cases h3
      · obtain ⟨c1, c2, c3, c4, c5, c6⟩ := clash_spec hwl hw hwi (hwx x hx) (hi x hx h1 h2)
        cases hW : W x.2 with
        | false => rfl
        | true =>
          rcases c4 hW with h3 | h3 | ⟨_, ⟨t, a, v, h3⟩, _⟩ | ⟨_, _, _, _, h3, _⟩ | ⟨_, _, _, h3, _⟩
          · rw [h3] at ht; cases ht
          · rw [him x hx h1 h2 hW] at h3; cases h3
          · exact absurd h3 (hni t a v)
          · rw [had] at h3; cases h3
          · rw [had] at h3; cases h3
    obtain ⟨g1, g2, g3, g4⟩ := hstep i o ho
    -- how the slots, and the memory, look behind it
    obtain ⟨l1, l2, hz, hl1, hl2⟩ := zipIdx_split ho
    have same1 : ∀ x ∈ l1, (if x.2 = i then true else b x.2) = b x.2 := fun x hx => if_neg (by have := hl1 x hx; omega)
    have same2 : ∀ x ∈ l2, (if x.2 = i then true else b x.2) = b x.2 := fun x hx => if_neg (by have := hl2 x hx; omega)
    have envNew : putA (killE (MV i) (E b)) o.dst (V i) = E (fun j => if j = i then true else b j) := by
      show putA (killE (MV i) (selE MV V b ops.toList.zipIdx st.env)) o.dst (V i) = selE MV V _ ops.toList.zipIdx st.env
      rw [hz, selE_append, selE_append]
      have e1 : selE MV V (fun j => if j = i then true else b j) l1 st.env = selE MV V b l1 st.env := selE_same l1 _ same1
      have e2 : ∀ e : List AV, selE MV V (fun j => if j = i then true else b j) l2 e = selE MV V b l2 e := fun e => selE_same l2 e same2
      rw [e1]
      unfold selE
      simp only [hbi, if_true, Bool.false_eq_true, if_false]
      rw [e2]
      refine selE_commute l2 _ (fun x hx hb => ?_)
      have hx' : x ∈ ops.toList.zipIdx := by rw [hz]; simp [hx]
      obtain ⟨c1, c2, c3, c4, c5, c6⟩ := clash_spec hwl hw hwi (hwx x hx') (hi x hx' (hl2 x hx) hb)
      exact ⟨apart_kill c6.1, apart_kill c5.1, fun t ht hd => (c1 t hd).2 ht⟩
    have noW : ∀ (j : Nat) y t a v, ops.toList[j]? = some y → y.op = .indexAddr t a v → W j = false := fun j y t a v hy hop => by
      obtain ⟨_, _, _, k4⟩ := hstep j y hy
      rcases k4 with ⟨_, k5, _, _⟩ | ⟨_, _, _, k5, _⟩
      · rw [hop] at k5
        simp only [evOp] at k5
        obtain ⟨_, _, k5⟩ := Option.bind_eq_some_iff.1 k5
        obtain ⟨_, _, k5⟩ := Option.bind_eq_some_iff.1 k5
        obtain ⟨_, _, he⟩ := Option.map_eq_some_iff.1 k5
        exact (congrArg Out.w he).symm
      · exact k5
    have noWad : ∀ (j : Nat) y t, ops.toList[j]? = some y → AD j = some t → W j = false := fun j y t hy had => by
      obtain ⟨_, _, _, k4⟩ := hstep j y hy
      rcases k4 with ⟨_, k5, _, _, k6, _, _⟩ | ⟨_, _, _, k5, _⟩
      · rw [had] at k6
        unfold adOf at k6
        split at k6
        · rename_i t2 a2 hop
          rw [hop] at k5
          simp only [evOp] at k5
          obtain ⟨_, _, k5⟩ := Option.bind_eq_some_iff.1 k5
          obtain ⟨_, _, k5⟩ := Option.bind_eq_some_iff.1 k5
          obtain ⟨_, _, he⟩ := Option.map_eq_some_iff.1 k5
          exact (congrArg Out.w he).symm
        · rename_i t2 a2 v2 hop
          exact noW j y _ _ _ hy hop
        · cases k6
      · exact k5
    have fresh : ∀ (j : Nat) y, ops.toList[j]? = some y → W j = true → T j = false → ∃ t row, FR j = some (t, row) := fun j y hy hWj hTj => by
      cases hfr : FR j with
      | some q => exact ⟨q.1, q.2, rfl⟩
      | none =>
        exfalso
        obtain ⟨_, _, _, k4⟩ := hstep j y hy
        rcases k4 with ⟨_, k5, k6, _⟩ | ⟨_, _, _, k5, _⟩
        · have := (evOp_untouched ((k6 hfr).symm.trans hTj) k5).1
          have h3 := congrArg Out.w this
          simp only at h3
          rw [hWj] at h3
          cases h3
        · rw [hWj] at k5; cases k5
    have stoNew : ∀ s, (W i = true → s = updO ops FR S i (M b)) → (W i = false → s = M b) → s = M (fun j => if j = i then true else b j) := fun s hs1 hs2 => by
      have e1 : selM (updO ops FR S) W (fun j => if j = i then true else b j) l1 st.sto = selM (updO ops FR S) W b l1 st.sto := selM_agree l1 _ (fun x hx hne => absurd (same1 x hx) hne)
      have e2 : ∀ e, selM (updO ops FR S) W (fun j => if j = i then true else b j) l2 e = selM (updO ops FR S) W b l2 e := fun e => selM_agree l2 _ (fun x hx hne => absurd (same2 x hx) hne)
      show s = selM (updO ops FR S) W _ ops.toList.zipIdx st.sto
      cases hW : W i with
      | false =>
        rw [hs2 hW]
        show selM (updO ops FR S) W b ops.toList.zipIdx st.sto = _
        rw [hz, selM_append, selM_append, e1]
        unfold selM
        simp only [hW, Bool.and_false, Bool.false_eq_true, if_false]
        rw [e2]
      | true =>
        rw [hs1 hW]
        show updO ops FR S i (selM (updO ops FR S) W b ops.toList.zipIdx st.sto) = _
        rw [hz, selM_append, selM_append, e1]
        unfold selM
        simp only [hW, hbi, if_true, Bool.and_true, Bool.false_eq_true, if_false]
        rw [e2]
        refine selM_swap l2 _ (fun x hx hb hWx s => ?_)
        have hx' : x ∈ ops.toList.zipIdx := by rw [hz]; simp [hx]
        obtain ⟨c1, c2, c3, c4, c5, c6⟩ := clash_spec hwl hw hwi (hwx x hx') (hi x hx' (hl2 x hx) hb)
        have hTx : T x.2 = false := by
          rcases c3 hW with h | ⟨_, ⟨t, a, v, h⟩, _⟩ | ⟨_, _, t, _, h, _⟩ | ⟨_, t, _, h, _⟩
          · exact h
          · rw [noW x.2 x.1 t a v (mem_zipIdx hx') h] at hWx; cases hWx
          · rw [noWad x.2 x.1 t (mem_zipIdx hx') h] at hWx; cases hWx
          · rw [noWad x.2 x.1 t (mem_zipIdx hx') h] at hWx; cases hWx
        obtain ⟨u, rx, hfx⟩ := fresh x.2 x.1 (mem_zipIdx hx') hWx hTx
        obtain ⟨_, _, _, kx⟩ := hstep x.2 x.1 (mem_zipIdx hx')
        rcases kx with ⟨_, _, _, _, _, _, kx⟩ | ⟨_, _, _, kx, _⟩
        case inr => rw [hWx] at kx; cases kx
        obtain ⟨_, x2, x3, _, x5, x6, _⟩ := kx u rx hfx
        have hTi : T i = false := by
          rcases c4 hWx with h | h | ⟨_, ⟨t, a, v, h⟩, _⟩ | ⟨_, _, t, _, h, _⟩ | ⟨_, t, _, h, _⟩
          · exact h
          · exfalso
            unfold immune at h
            split at h
            · rename_i h5 h6
              rw [h6] at x2
              cases x2
            · cases h
          · rw [noW i o t a v ho h] at hW; cases hW
          · rw [noWad i o t ho h] at hW; cases hW
          · rw [noWad i o t ho h] at hW; cases hW
        obtain ⟨t, ri, hfi⟩ := fresh i o ho hW hTi
        rcases g4 with ⟨_, _, _, _, _, _, ki⟩ | ⟨_, _, _, ki, _⟩
        case inr => rw [hW] at ki; cases ki
        obtain ⟨_, i2, i3, _, i5, i6, _⟩ := ki t ri hfi
        have hne : t ≠ u := fun e => by
          have := List.all_eq_true.1 c5.1 u x6
          rw [i3, e] at this
          simp at this
        unfold updO
        rw [hfi, hfx]
        exact newRow_comm hne i5 x5 s
    rcases g4 with ⟨k1, k2, k6, _, k8, _, k7⟩ | ⟨k1, k2, k3, k4, _⟩
    · -- it runs
      have hg := guard_ok he ((guardA_congr looks).trans k1)
      rw [hg, if_pos rfl]
      have hev : evOp P call base (ownOf hs o) (evA (E b)) (S i).sto o.op = some ⟨V i, (S (i + 1)).sto, MV i, W i⟩ := by rw [evOp_congr (evA_congr looks)]; exact k2
      have run : ∃ s, evOp P call base (ownOf hs o) (evA (E b)) (M b) o.op = some ⟨V i, s, MV i, W i⟩ ∧ s = M (fun j => if j = i then true else b j) := by
        have hNo : T i = true → FR i = none := fun ht => by
          cases hfr : FR i with
          | none => rfl
          | some q => rw [(k7 q.1 q.2 hfr).1] at ht; cases ht
        cases ht : T i with
        | true =>
          -- what is looked at is the same, by whatever relation goes by it
          have relM : ∀ (R : List Row → List Row → Prop), (∀ s, R s s) → (∀ s s', R s s' → R s' s) → (∀ s s1 s2, R s s1 → R s1 s2 → R s s2) → (∀ u row s s', s.length = st.sto.length → s'.length = st.sto.length → R s s' → R (newRow u row s) (newRow u row s')) →
              (∀ x ∈ ops.toList.zipIdx, b x.2 ≠ decide (x.2 < i) → W x.2 = true → ∀ s : List Row, s.length = st.sto.length → R s (updO ops FR S x.2 s)) → R (S i).sto (M b) := fun R hr hsy htr hnew hdiff => by
            refine hsy _ _ ?_
            rw [← s2]
            refine selM_rel (n := st.sto.length) hr hsy htr ops.toList.zipIdx _ _ (.inl rfl) rfl rfl (fun x hx _ s hs => upLen x.2 (List.getElem?_eq_some_iff.1 (mem_zipIdx hx)).1 s hs) ?_ hdiff
            rw [List.pairwise_iff_getElem]
            intro p q hp hq hpq hne hWx hby hby' hWy s1 s2' hl1 hl2' hsh
            have hpl : p < ops.toList.length := by simpa using hp
            have hql : q < ops.toList.length := by simpa using hq
            have ep : ops.toList.zipIdx[p] = (ops.toList[p], p) := by simp
            have eq : ops.toList.zipIdx[q] = (ops.toList[q], q) := by simp
            rw [ep] at hne hWx
            rw [eq] at hby hby' hWy ⊢
            simp only at hne hWx hby hby' hWy ⊢
            have hqi : q < i := by simpa using hby'
            have hbp : b p = false := by
              cases hb : b p with
              | false => rfl
              | true => rw [hb] at hne; exact absurd (by simp; omega) hne
            have hop' : ops.toList[p]? = some ops.toList[p] := List.getElem?_eq_getElem hpl
            have hoq : ops.toList[q]? = some ops.toList[q] := List.getElem?_eq_getElem hql
            have hTq : T q = false := by
              rcases hcl p q _ _ hop' hoq hpq with h | h
              · obtain ⟨c1, c2, c3, c4, c5, c6⟩ := clash_spec hwl hw (by omega) (by omega) h
                rcases c3 hWx with h3 | ⟨_, ⟨t, a, v, h3⟩, _⟩ | ⟨_, _, t, _, h3, _⟩ | ⟨_, t, _, h3, _⟩
                · exact h3
                · rw [noW q _ t a v hoq h3] at hWy; cases hWy
                · rw [noWad q _ t hoq h3] at hWy; cases hWy
                · rw [noWad q _ t hoq h3] at hWy; cases hWy
              · rw [down_bits hedge hdn q _ hoq (hdn q _ hoq hby) p h] at hbp; cases hbp
            obtain ⟨u, rx, hfx⟩ := fresh q _ hoq hWy hTq
            unfold updO
            rw [hfx]
            exact hnew u rx s1 s2' hl1 hl2' hsh
          -- what parts from the text's order: stores, for an address of an element; new rows
          have parts : (∀ t m y, o.op ≠ .lookup t m y false) → ∀ x ∈ ops.toList.zipIdx, b x.2 ≠ decide (x.2 < i) → W x.2 = true → ((∃ t a v, x.1.op = .store t a v) ∧ (∃ t a v, o.op = .indexAddr t a v) ∧ MV x.2 = []) ∨ Calm (FR x.2) (AD i) (V i) ∨ Else (ST x.2) (AD i) (MV x.2) := fun hnl x hx hne hW => by
            rcases part x hx hne with ⟨h1, h2⟩ | ⟨h1, h2⟩
            · obtain ⟨c1, c2, c3, c4, c5, c6⟩ := clash_spec hwl hw (hwx x hx) hwi (lo x hx h1 h2)
              rcases c3 hW with h3 | h3 | h3
              · rw [h3] at ht; cases ht
              · exact .inl h3
              · exact .inr h3
            · obtain ⟨c1, c2, c3, c4, c5, c6⟩ := clash_spec hwl hw hwi (hwx x hx) (hi x hx h1 h2)
              rcases c4 hW with h3 | h3 | h3 | h3
              · rw [h3] at ht; cases ht
              · exfalso
                unfold immune at h3
                split at h3
                · rename_i h5 h6
                  exact hnl _ _ _ h5
                · cases h3
              · exact .inl h3
              · exact .inr h3
          have stored : ∀ x ∈ ops.toList.zipIdx, W x.2 = true → (∃ t a v, x.1.op = .store t a v) → MV x.2 = [] → ∀ s, Sh s (updO ops FR S x.2 s) := fun x hx hW ⟨t, a, v, h3⟩ h4 s => by
            have hok := mem_zipIdx hx
            obtain ⟨_, _, _, k4⟩ := hstep x.2 x.1 hok
            rcases k4 with ⟨_, k5, _, _, _, _, k8⟩ | ⟨_, _, _, k5, _⟩
            · have hfr : FR x.2 = none := by
                cases hfr : FR x.2 with
                | none => rfl
                | some q => have := (k8 q.1 q.2 hfr).2.1; rw [h3] at this; cases this
              have hst : Sh (S x.2).sto (S (x.2 + 1)).sto := by
                rw [h3] at k5
                simp only [evOp] at k5
                obtain ⟨_, _, k5⟩ := Option.bind_eq_some_iff.1 k5
                obtain ⟨_, _, k5⟩ := Option.bind_eq_some_iff.1 k5
                exact storeA_sh k5 h4
              unfold updO
              rw [hfr]
              simp only
              have hisS : isStoreAt ops x.2 = true := by unfold isStoreAt; rw [hok]; simp only; rw [h3]; rfl
              rw [if_pos hisS]
              split
              · rename_i hs; rw [hs]; exact hst
              · exact Sh.refl _
            · rw [hW] at k5; cases k5
          have elsewhere : ∀ x ∈ ops.toList.zipIdx, W x.2 = true → ∀ k, ST x.2 = some k → MV x.2 = [] → ∀ (u : Nat), u ≠ k → ∀ s, (updO ops FR S x.2 s)[u]? = s[u]? := fun x hx hW k hk h4 u hu s => by
            have hok := mem_zipIdx hx
            obtain ⟨_, _, _, k4⟩ := hstep x.2 x.1 hok
            rcases k4 with ⟨_, k5, _, _, _, k6, k8⟩ | ⟨_, _, _, k5, _⟩
            · rw [hk] at k6
              unfold stOf at k6
              split at k6
              case h_2 => cases k6
              rename_i t a v h3
              split at k6
              case h_2 => cases k6
              rename_i t2 i2 j2 ha
              simp only [Option.some.injEq] at k6
              subst k6
              have hfr : FR x.2 = none := by
                cases hfr : FR x.2 with
                | none => rfl
                | some q => have := (k8 q.1 q.2 hfr).2.1; rw [h3] at this; cases this
              have hst : (S (x.2 + 1)).sto[u]? = (S x.2).sto[u]? := by
                rw [h3] at k5
                simp only [evOp, ha, Option.bind_some] at k5
                obtain ⟨_, _, k5⟩ := Option.bind_eq_some_iff.1 k5
                exact storeA_at k5 h4 u hu
              unfold updO
              rw [hfr]
              simp only
              have hisS : isStoreAt ops x.2 = true := by unfold isStoreAt; rw [hok]; simp only; rw [h3]; rfl
              rw [if_pos hisS]
              split
              · rename_i hs; rw [hs]; exact hst
              · rfl
            · rw [hW] at k5; cases k5
          by_cases hidx : ∃ t a v, o.op = .indexAddr t a v
          · -- an address of an element: it looks at shapes alone
            obtain ⟨t, y, v, hop⟩ := hidx
            have hWi : W i = false := noW i o t y v ho hop
            refine ⟨M b, ?_, stoNew _ (fun h => by rw [hWi] at h; cases h) (fun _ => rfl)⟩
            rw [hop] at hev ⊢
            simp only [evOp] at hev ⊢
            obtain ⟨u, hu, hev⟩ := Option.bind_eq_some_iff.1 hev
            obtain ⟨v', hv, hev⟩ := Option.bind_eq_some_iff.1 hev
            obtain ⟨r, hr, he⟩ := Option.map_eq_some_iff.1 hev
            rw [hu, hv]
            simp only [Option.bind_some]
            have same : indexAddrA P (S i).sto t u v' = indexAddrA P (M b) t u v' := by
              cases u with
              | os k off len =>
                refine indexAddrA_at (relM (ShAt k) (fun _ => rfl) (fun _ _ h => h.symm) (fun _ _ _ h g => h.trans g) (fun u row s s' hl1 hl2 h => shAt_new2 h (by omega)) (fun x hx hne hW s hl => ?_))
                have hAk : ∀ t', AD i = some t' → t' = k := fun t' h2 => by
                  rw [k8] at h2
                  unfold adOf at h2
                  rw [hop] at h2
                  simp only at h2
                  have hu2 : evA (S i).env y = some (.os k off len) := by
                    rw [← hu]
                    exact (evA_congr looks y (by rw [hop]; simp [Op.operands])).symm
                  rw [hu2] at h2
                  simpa using h2.symm
                rcases parts (fun t m y h => by rw [hop] at h; cases h) x hx hne hW with ⟨h1, _, h3⟩ | ⟨u, row, t', h1, h2, h3, _⟩ | ⟨k', t', h1, h2, h3, h4⟩
                · exact stored x hx hW h1 h3 s k
                case inr.inr =>
                  have hk := hAk t' h2
                  unfold ShAt
                  rw [elsewhere x hx hW k' h1 h4 k (by rw [← hk]; exact h3) s]
                · have hk := hAk t' h2
                  unfold updO
                  rw [h1]
                  exact shAt_new (by rw [← hk]; exact h3)
              | _ => unfold indexAddrA; cases P.underlying t with
                | none => rfl
                | some w => cases w <;> cases v' <;> first | rfl | (rename_i z; cases z <;> rfl)
            rw [← same, hr]
            simp only [Option.map_some]
            have h1 := congrArg Out.val he
            have h2 := congrArg Out.mv he
            have h3 := congrArg Out.w he
            simp only at h1 h2 h3
            rw [h1, ← h2, ← h3]
          have hni : ∀ t a v, o.op ≠ .indexAddr t a v := fun t a v h => hidx ⟨t, a, v, h⟩
          by_cases had : ∃ t, AD i = some t
          · -- a look at a piece of memory, ahead of, or behind, new ones
            obtain ⟨t', had⟩ := had
            have hWi : W i = false := noWad i o t' ho had
            obtain ⟨ty, a0, hop, i0, j0, ha0⟩ : ∃ ty a0, o.op = .load ty a0 ∧ ∃ i0 j0, evA (S i).env a0 = some (.pt t' i0 j0) := by
              rw [had] at k8
              unfold adOf at k8
              split at k8
              · rename_i ty a0 hop
                split at k8
                · rename_i t2 i0 j0 h
                  simp only [Option.some.injEq] at k8
                  subst k8
                  exact ⟨ty, a0, hop, i0, j0, h⟩
                · cases k8
              · rename_i h
                exact absurd h (hni _ _ _)
              · cases k8
            refine ⟨M b, ?_, stoNew _ (fun h => by rw [hWi] at h; cases h) (fun _ => rfl)⟩
            have hu : evA (E b) a0 = some (.pt t' i0 j0) := by rw [← ha0]; exact evA_congr looks a0 (by rw [hop]; simp [Op.operands])
            rw [hop] at hev ⊢
            simp only [evOp, hu, Option.bind_some] at hev ⊢
            have hcal : ∀ x ∈ ops.toList.zipIdx, b x.2 ≠ decide (x.2 < i) → W x.2 = true → Calm (FR x.2) (AD i) (V i) ∨ Else (ST x.2) (AD i) (MV x.2) := fun x hx hne hW => by
              rcases parts (fun t m y h => by rw [hop] at h; cases h) x hx hne hW with ⟨_, ⟨t, a, v, h2⟩, _⟩ | h
              · exact absurd h2 (hni t a v)
              · exact h
            by_cases hany : ∃ x ∈ ops.toList.zipIdx, (b x.2 ≠ decide (x.2 < i) ∧ W x.2 = true) ∧ Calm (FR x.2) (AD i) (V i)
            · have hnd : noDeadV (V i) = true := by
                obtain ⟨x, hx, _, _, _, _, _, _, _, _, h⟩ := hany
                exact h
              let ks : List Nat := ops.toList.zipIdx.filterMap fun x => if b x.2 ≠ decide (x.2 < i) ∧ W x.2 = true ∧ (FR x.2).isSome = true then (FR x.2).map (·.1) else none
              have hks : ∀ u ∈ ks, apart [u] (V i) = true := fun u hu => by
                obtain ⟨x, hx, h⟩ := List.mem_filterMap.1 hu
                split at h
                · rename_i hc
                  obtain ⟨u', row, t2, h1, _, _, h4, _⟩ : Calm (FR x.2) (AD i) (V i) := by
                    rcases hcal x hx hc.1 hc.2.1 with h5 | ⟨k', _, h5, _⟩
                    · exact h5
                    · exfalso
                      obtain ⟨_, _, _, kx⟩ := hstep x.2 x.1 (mem_zipIdx hx)
                      rcases kx with ⟨_, _, _, _, _, k6, k9⟩ | ⟨_, _, _, kx, _⟩
                      · obtain ⟨q, hq⟩ := Option.isSome_iff_exists.1 hc.2.2
                        have h7 := (k9 q.1 q.2 hq).2.1
                        rw [h5] at k6
                        unfold stOf at k6
                        split at k6
                        · rename_i h8; rw [h8] at h7; cases h7
                        · cases k6
                      · rw [hc.2.1] at kx; cases kx
                  rw [h1] at h
                  simp only [Option.map_some, Option.some.injEq] at h
                  rw [← h]; exact h4
                · cases h
              have hkV : killV ks (V i) = V i := killV_not ks _ (fun t ht hk => by
                have := List.all_eq_true.1 (hks t hk) t ht
                simp at this)
              have hUp := relM (UpTo t' ks) (fun _ => rfl) (fun _ _ h => h.symm) (fun _ _ _ h g => h.trans g) (fun u row s s' hl1 hl2 h => upTo_new2 h (by omega)) (fun x hx hne hW s hl => by
                rcases hcal x hx hne hW with ⟨u, row, t2, h1, h2, h3, _⟩ | ⟨k', t2, h1, h2, h3, h4⟩
                · rw [had] at h2
                  simp only [Option.some.injEq] at h2
                  subst h2
                  unfold updO
                  rw [h1]
                  exact upTo_new h3 (List.mem_filterMap.2 ⟨x, hx, by rw [if_pos ⟨hne, hW, by rw [h1]; rfl⟩, h1]; rfl⟩)
                · rw [had] at h2
                  simp only [Option.some.injEq] at h2
                  subst h2
                  unfold UpTo
                  rw [elsewhere x hx hW k' h1 h4 t' h3 s])
              have hload : ((cellsAt (S i).sto (.pt t' i0 j0)).bind fun cs => loadA P ty cs) = some (V i) := by
                obtain ⟨cs, hcs, hev⟩ := Option.bind_eq_some_iff.1 hev
                obtain ⟨v, hv, he⟩ := Option.map_eq_some_iff.1 hev
                rw [hcs]
                simp only [Option.bind_some]
                rw [hv]
                exact congrArg (fun z => some (Out.val z)) he
              have h5 := load_upTo hload hUp.symm hnd hkV
              obtain ⟨cs, hcs, h5⟩ := Option.bind_eq_some_iff.1 h5
              rw [hcs]
              simp only [Option.bind_some]
              rw [h5]
              simp only [Option.map_some]
              obtain ⟨_, _, hev⟩ := Option.bind_eq_some_iff.1 hev
              obtain ⟨_, _, he⟩ := Option.map_eq_some_iff.1 hev
              have h2 := congrArg Out.mv he
              have h3 := congrArg Out.w he
              simp only at h2 h3
              rw [← h2, ← h3]
            · have hrow : (S i).sto[t']? = (M b)[t']? := relM (fun s s' => s[t']? = s'[t']?) (fun _ => rfl) (fun _ _ h => h.symm) (fun _ _ _ h g => h.trans g) (fun u row s s' hl1 hl2 h => by
                  unfold newRow
                  rw [List.getElem?_set, List.getElem?_set, List.length_map, List.length_map, hl1, hl2]
                  split
                  · rfl
                  · rw [List.getElem?_map, List.getElem?_map, h]) (fun x hx hne hW s hl => by
                rcases hcal x hx hne hW with h | ⟨k', t2, h1, h2, h3, h4⟩
                · exact absurd ⟨x, hx, ⟨hne, hW⟩, h⟩ hany
                · rw [had] at h2
                  simp only [Option.some.injEq] at h2
                  subst h2
                  exact (elsewhere x hx hW k' h1 h4 t' h3 s).symm)
              have hcells : cellsAt (M b) (.pt t' i0 j0) = cellsAt (S i).sto (.pt t' i0 j0) := by
                simp only [cellsAt, hrow]
              rw [hcells]
              obtain ⟨cs, hcs, hev⟩ := Option.bind_eq_some_iff.1 hev
              obtain ⟨v, hv, he⟩ := Option.map_eq_some_iff.1 hev
              rw [hcs]
              simp only [Option.bind_some]
              rw [hv]
              simp only [Option.map_some]
              have h1 := congrArg Out.val he
              have h2 := congrArg Out.mv he
              have h3 := congrArg Out.w he
              simp only at h1 h2 h3
              rw [h1, ← h2, ← h3]
          have hadn : AD i = none := by
            cases h : AD i with
            | none => rfl
            | some t => exact absurd ⟨t, h⟩ had
          by_cases him : ∀ x ∈ ops.toList.zipIdx, i < x.2 → b x.2 = true → W x.2 = true → immune o x.1 = false
          · refine ⟨(S (i + 1)).sto, by rw [mem ht hadn hni him]; exact hev, stoNew _ (fun _ => (updO_none (hNo ht) (.inl (mem ht hadn hni him))).symm) (fun hW => by rw [mem ht hadn hni him]; exact (g3 hW).1)⟩
          · -- a look at a map, and an entry ahead of it
            obtain ⟨x0, hx0, hlt0, hb0, hW0, him0⟩ : ∃ x0 ∈ ops.toList.zipIdx, i < x0.2 ∧ b x0.2 = true ∧ W x0.2 = true ∧ immune o x0.1 = true := by
              false_or_by_contra
              rename_i hno
              refine him (fun x hx h1 h2 h3 => ?_)
              cases h4 : immune o x.1 with
              | false => rfl
              | true => exact absurd ⟨x, hx, h1, h2, h3, h4⟩ hno
            obtain ⟨t, m, y, hop⟩ : ∃ t m y, o.op = .lookup t m y false := by
              unfold immune at him0
              split at him0
              · rename_i t m y _ _ _ h1 _; exact ⟨t, m, y, h1⟩
              · cases him0
            have hWi : W i = false := by
              rw [hop] at hev
              simp only [evOp] at hev
              obtain ⟨_, _, hev⟩ := Option.bind_eq_some_iff.1 hev
              obtain ⟨_, _, hev⟩ := Option.bind_eq_some_iff.1 hev
              obtain ⟨_, _, he⟩ := Option.map_eq_some_iff.1 hev
              exact (congrArg Out.w he).symm
            have hall : ∀ x ∈ ops.toList.zipIdx, i < x.2 → b x.2 = true → W x.2 = true → ∃ m y, x.1.op = .mapEntry t m y := fun x hx h1 h2 h3 => by
              obtain ⟨c1, c2, c3, c4, c5, c6⟩ := clash_spec hwl hw hwi (hwx x hx) (hi x hx h1 h2)
              rcases c4 h3 with h4 | h4 | ⟨_, ⟨t, a, v, h4⟩, _⟩ | ⟨_, _, _, _, h4, _⟩ | ⟨_, _, _, h4, _⟩
              case inr.inr.inl => exact absurd h4 (hni t a v)
              case inr.inr.inr.inl => rw [hadn] at h4; cases h4
              case inr.inr.inr.inr => rw [hadn] at h4; cases h4
              · rw [h4] at ht; cases ht
              · unfold immune at h4
                split at h4
                · rename_i t1 _ _ t2 m y h5 h6
                  rw [hop] at h5
                  cases h5
                  have : t = t2 := by simpa using h4
                  subst this
                  exact ⟨m, y, h6⟩
                · cases h4
            have ahead : ∀ (k : Nat), i < k → k < ops.toList.length → b k = true → W k = true → ∀ j, j < k → W j = true → b j = true := fun k hk hkl hbk hWk j hj hWj => by
              have hok : ops.toList[k]? = some ops.toList[k] := List.getElem?_eq_getElem hkl
              have hoj : ops.toList[j]? = some ops.toList[j] := List.getElem?_eq_getElem (by omega)
              rcases hcl j k _ _ hoj hok hj with h | h
              · obtain ⟨c1, c2, c3, c4, c5, c6⟩ := clash_spec hwl hw (by omega) (by omega) h
                obtain ⟨m', y', h4⟩ := hall (ops.toList[k], k) (List.mem_zipIdx_iff_getElem?.2 hok) hk hbk hWk
                simp only at h4
                have h3 : T k = false := by
                  rcases c3 hWj with h3 | ⟨_, ⟨t, a, v, h3⟩, _⟩ | ⟨_, _, t, _, h3, _⟩ | ⟨_, t, _, h3, _⟩
                  · exact h3
                  · rw [h4] at h3; cases h3
                  · rw [noWad k _ t hok h3] at hWk; cases hWk
                  · rw [noWad k _ t hok h3] at hWk; cases hWk
                obtain ⟨_, _, _, q4⟩ := hstep k _ hok
                rcases q4 with ⟨_, _, q6, _, _, _, q7⟩ | ⟨_, _, _, q6, _⟩
                · cases hfk : FR k with
                  | some q => have := (q7 q.1 q.2 hfk).2.1; rw [h4] at this; cases this
                  | none => have q8 := q6 hfk; rw [h4] at q8; rw [q8] at h3; cases h3
                · rw [hWk] at q6; cases q6
              · exact down_bits hedge hdn k _ hok (hdn k _ hok hbk) j h
            have chain : ∀ (d k : Nat) (s : List Row), k + d = ops.toList.length → i < k → Look P t (S i).sto s → ((∀ j, i ≤ j → j < k → W j = true → b j = true) → s = (S k).sto) → Look P t (S i).sto (selM (updO ops FR S) W b (ops.toList.zipIdx.drop k) s) := by
              intro d
              induction d with
              | zero =>
                intro k s hk _ hL _
                rw [List.drop_eq_nil_of_le (by simp; omega)]
                exact hL
              | succ d ih =>
                intro k s hk hik hL hs
                have hkl : k < ops.toList.length := by omega
                have hok : ops.toList[k]? = some ops.toList[k] := List.getElem?_eq_getElem hkl
                have hz : k < ops.toList.zipIdx.length := by simpa using hkl
                have e0 : ops.toList.zipIdx[k] = (ops.toList[k], k) := by simp
                rw [List.drop_eq_getElem_cons hz, e0]
                unfold selM
                obtain ⟨f1, f2, f3, f4⟩ := hstep k _ hok
                by_cases hbw : (b k && W k) = true
                · simp only [hbw, if_true]
                  have hbk : b k = true := by simp at hbw; exact hbw.1
                  have hWk : W k = true := by simp at hbw; exact hbw.2
                  have hse : s = (S k).sto := hs (fun j _ h2 h3 => ahead k hik hkl hbk hWk j h2 h3)
                  have hfk : FR k = none := by
                    obtain ⟨m', y', h4⟩ := hall (ops.toList[k], k) (List.mem_zipIdx_iff_getElem?.2 hok) hik hbk hWk
                    simp only at h4
                    rcases f4 with ⟨_, _, _, _, _, _, f7⟩ | ⟨_, _, _, f7, _⟩
                    · cases hfk : FR k with
                      | none => rfl
                      | some q => have := (f7 q.1 q.2 hfk).2.1; rw [h4] at this; cases this
                    · rw [hWk] at f7; cases f7
                  have hupk : updO ops FR S k s = (S (k + 1)).sto := updO_none hfk (.inl (hs (fun j _ h2 h3 => ahead k hik hkl hbk hWk j h2 h3)))
                  rw [hupk]
                  refine ih (k + 1) _ (by omega) (by omega) ?_ (fun _ => rfl)
                  refine hL.trans ?_
                  rw [hse]
                  rcases f4 with ⟨_, f5, _, _⟩ | ⟨_, _, _, f5, _⟩
                  · obtain ⟨m', y', h4⟩ := hall (ops.toList[k], k) (List.mem_zipIdx_iff_getElem?.2 hok) hik hbk hWk
                    simp only at h4
                    rw [h4] at f5
                    simp only [evOp] at f5
                    obtain ⟨_, _, f5⟩ := Option.bind_eq_some_iff.1 f5
                    obtain ⟨_, _, f5⟩ := Option.bind_eq_some_iff.1 f5
                    exact Look.entry f5
                  · rw [hWk] at f5; cases f5
                · rw [if_neg hbw]
                  refine ih (k + 1) s (by omega) (by omega) hL (fun hall' => ?_)
                  have h1 := hs (fun j h1 h2 => hall' j h1 (by omega))
                  have hWk : W k = false := by
                    cases h2 : W k with
                    | false => rfl
                    | true =>
                      have h3 := hall' k (by omega) (by omega) h2
                      rw [h2, h3] at hbw
                      simp at hbw
                  rw [h1]
                  exact (f3 hWk).1.symm
            have hMb : Look P t (S i).sto (M b) := by
              have e1 : M b = selM (updO ops FR S) W b (ops.toList.zipIdx.drop (i + 1)) (selM (updO ops FR S) W b (ops.toList.zipIdx.take (i + 1)) st.sto) := by
                rw [← selM_append, List.take_append_drop]
              have e2 : selM (updO ops FR S) W b (ops.toList.zipIdx.take (i + 1)) st.sto = (S i).sto := by
                have e3 : selM (updO ops FR S) W (fun j => decide (j < i)) (ops.toList.zipIdx.take (i + 1)) st.sto = (S i).sto := by
                  rw [← s2]
                  conv => rhs; rw [← List.take_append_drop (i + 1) ops.toList.zipIdx, selM_append]
                  rw [selM_none (l := ops.toList.zipIdx.drop (i + 1))]
                  intro x hx hb
                  obtain ⟨j, hj⟩ := List.getElem?_of_mem hx
                  rw [List.getElem?_drop, List.getElem?_zipIdx] at hj
                  obtain ⟨_, _, rfl⟩ := Option.map_eq_some_iff.1 hj
                  simp at hb
                  omega
                rw [← e3]
                refine selM_agree _ _ (fun x hx hne => ?_)
                have hx' : x ∈ ops.toList.zipIdx := List.mem_of_mem_take hx
                rcases part x hx' hne with ⟨h1, h2⟩ | ⟨h1, h2⟩
                · obtain ⟨c1, c2, c3, c4, c5, c6⟩ := clash_spec hwl hw (hwx x hx') hwi (lo x hx' h1 h2)
                  cases hW : W x.2 with
                  | false => rfl
                  | true =>
                    rcases c3 hW with h3 | ⟨_, ⟨t, a, v, h3⟩, _⟩ | ⟨_, _, _, _, h3, _⟩ | ⟨_, _, _, h3, _⟩
                    · rw [h3] at ht; cases ht
                    · exact absurd h3 (hni t a v)
                    · rw [hadn] at h3; cases h3
                    · rw [hadn] at h3; cases h3
                · exfalso
                  obtain ⟨j, hj⟩ := List.getElem?_of_mem hx
                  rw [List.getElem?_take] at hj
                  split at hj
                  · rw [List.getElem?_zipIdx] at hj
                    obtain ⟨_, _, rfl⟩ := Option.map_eq_some_iff.1 hj
                    simp at h1
                    omega
                  · cases hj
              rw [e1, e2]
              refine chain (ops.toList.length - (i + 1)) (i + 1) _ (by omega) (by omega) (Look.refl _ _ _) (fun _ => ?_)
              exact (g3 hWi).1.symm
            refine ⟨M b, ?_, stoNew _ (fun h => by rw [hWi] at h; cases h) (fun _ => rfl)⟩
            rw [hop] at hev ⊢
            simp only [evOp] at hev ⊢
            obtain ⟨u, hu, hev⟩ := Option.bind_eq_some_iff.1 hev
            obtain ⟨v, hv, hev⟩ := Option.bind_eq_some_iff.1 hev
            obtain ⟨r, hr, he⟩ := Option.map_eq_some_iff.1 hev
            rw [hu, hv]
            simp only [Option.bind_some]
            rw [hMb _ _ _ hr]
            simp only [Option.map_some]
            have h1 := congrArg Out.val he
            have h2 := congrArg Out.mv he
            have h3 := congrArg Out.w he
            simp only at h1 h2 h3
            rw [h1, ← h2, ← h3]
        | false =>
          cases hfr : FR i with
          | some q =>
            obtain ⟨q1, q2, q3, q4, q5, q6, q7, q8⟩ := k7 q.1 q.2 hfr
            have h8 := q8 (M b) (memLen i hil b)
            refine ⟨newRow q.1 q.2 (M b), ?_, stoNew _ (fun _ => ?_) (fun h => by rw [q4] at h; cases h)⟩
            · rw [evOp_congr (evA_congr looks), h8, q3, q4]
            · show _ = updO ops FR S i (M b)
              unfold updO
              rw [hfr]
          | none =>
          have hTV : touchV (ownOf hs o) (evA (E b)) o.op = T i := by rw [k6 hfr]; exact touchV_congr (evA_congr looks)
          obtain ⟨h1, h2⟩ := evOp_untouched (hTV.trans ht) hev
          have hW : W i = false := by have := congrArg Out.w h1; simpa using this
          have hM : MV i = [] := by have := congrArg Out.mv h1; simpa using this
          refine ⟨M b, by rw [h2 (M b), hW, hM], stoNew _ (fun h => by rw [hW] at h; cases h) (fun _ => rfl)⟩
      obtain ⟨s, hrun, hsM⟩ := run
      refine evOp_ok hK.names hK.maps hK.defd hK.ok hsto (fun x v hv => evA_ok he x v hv) hrun K Q (fun v w' hp => ?_)
      obtain ⟨ρ', p1, p2, p3⟩ := hp
      refine hKK _ _ ⟨ρ', ?_, ?_, hf.step p3 (fun t ht => ht) (fun t ht => ?_)⟩
      · rw [← envNew]; exact putA_ok (killE_ok he p3) p1
      · rw [← hsM]; exact p2
      · rcases addMv_new (base := base) (MV i) (S i).mv t ht with h | h
        · exact .inl h
        · right; rw [← g2] at h; exact hmv (i + 1) (by omega) t h
    · -- it doesn't
      have hg := guard_ok he ((guardA_congr looks).trans k1)
      rw [hg, if_neg (by simp)]
      refine hKK _ _ ⟨ρ, ?_, ?_, hf⟩
      · rw [← envNew, k3, k2]
        exact putA_ok (by exact he) (.v _)
      · rw [← stoNew (M b) (fun h => by rw [k4] at h; cases h) (fun _ => rfl)]; exact hsto
  -- all orders
  have all : ∀ (fuel : Nat) (listed : Array Bool) (a : Act) (w : World), listed.size = ops.size → ((List.range ops.size).filter fun i => !listed.getD i false).length = fuel → Down ops (fun i => listed.getD i false) → I (fun i => listed.getD i false) a w → wpAny P .any ops Q fuel listed a w := by
    have full : ∀ (listed : Array Bool) (a : Act) (w : World), (∀ i, i < ops.size → listed.getD i false = true) → I (fun i => listed.getD i false) a w → Q .normal a w := fun listed a w hall hI => by
      obtain ⟨ρ, he, hsto, hf⟩ := hI
      obtain ⟨s1, s2⟩ := selE_text hstep ops.toList.length (Nat.le_refl _)
      rw [hS0, hSn] at s1 s2
      have e1 : E (fun i => listed.getD i false) = st'.env := by
        rw [← s1]
        refine selE_same _ _ (fun x hx => ?_)
        have hl := (List.getElem?_eq_some_iff.1 (mem_zipIdx hx)).1
        simp only [hall x.2 (by omega), hl, decide_true]
      have e2 : M (fun i => listed.getD i false) = st'.sto := by
        rw [← s2]
        refine selM_agree _ _ (fun x hx hne => absurd ?_ hne)
        have hl := (List.getElem?_eq_some_iff.1 (mem_zipIdx hx)).1
        simp only [hall x.2 (by omega), hl, decide_true]
      rw [e1] at he
      rw [e2] at hsto
      exact hq a w ⟨ρ, he, hsto, hf⟩
    have ready : ∀ (listed : Array Bool), listed.size = ops.size → ∀ i, i ∈ Region.ready .any ops listed ↔ i < ops.size ∧ listed.getD i false = false ∧ ∀ o, ops.toList[i]? = some o → ∀ e ∈ o.after.toList, Region.binds .any e = true → listed.getD e.on false = true := by
      intro listed hls i
      unfold Region.ready
      rw [List.mem_filter, List.mem_range]
      constructor
      · rintro ⟨h1, h2⟩
        refine ⟨h1, ?_, ?_⟩
        · have h3 : (!listed.getD i true) = true := (Bool.and_eq_true_iff.1 h2).1
          simp [hls, h1] at h3 ⊢
          exact h3
        · intro o ho e he hb
          have h3 := (Bool.and_eq_true_iff.1 h2).2
          have ho' : ops[i]? = some o := by simpa using ho
          rw [ho'] at h3
          simp only [Option.map_some, Option.getD_some, Array.all_eq_true'] at h3
          have := h3 e (by simpa using he)
          simpa [hb] using this
      · rintro ⟨h1, h2, h3⟩
        refine ⟨h1, Bool.and_eq_true_iff.2 ⟨?_, ?_⟩⟩
        · simp [hls, h1] at h2 ⊢
          exact h2
        · have ho' : ops[i]? = some ops[i] := Array.getElem?_eq_getElem h1
          rw [ho']
          simp only [Option.map_some, Option.getD_some, Array.all_eq_true']
          intro e he
          cases hb : Region.binds .any e with
          | false => rfl
          | true => simpa using h3 ops[i] (by simp) e (by simpa using he) hb
    have done : ∀ (listed : Array Bool), listed.size = ops.size → Region.ready .any ops listed = [] → ∀ i, i < ops.size → listed.getD i false = true := by
      intro listed hls hr i
      induction i using Nat.strongRecOn with
      | _ i ih =>
        intro hi
        cases hl : listed.getD i false with
        | true => rfl
        | false =>
          have : i ∈ Region.ready .any ops listed := (ready listed hls i).2 ⟨hi, hl, fun o ho e he hb => by
            have hlt := hedge i o ho e he hb
            exact ih e.on hlt (by omega)⟩
          rw [hr] at this
          cases this
    intro fuel
    induction fuel with
    | zero =>
      intro listed a w hls hcnt hdn hI
      have hall : ∀ i, i < ops.size → listed.getD i false = true := fun i hi => by
        cases hl : listed.getD i false with
        | true => rfl
        | false =>
          have : i ∈ (List.range ops.size).filter fun i => !listed.getD i false := List.mem_filter.2 ⟨List.mem_range.2 hi, by rw [hl]; rfl⟩
          rw [List.eq_nil_of_length_eq_zero hcnt] at this
          cases this
      refine ⟨List.eq_nil_iff_forall_not_mem.2 (fun i hi => ?_), full listed a w hall hI⟩
      obtain ⟨h1, h2, _⟩ := (ready listed hls i).1 hi
      rw [hall i h1] at h2
      cases h2
    | succ fuel ih =>
      intro listed a w hls hcnt hdn hI
      refine ⟨fun hr => full listed a w (done listed hls hr) hI, fun i hi => ?_⟩
      obtain ⟨h1, h2, h3⟩ := (ready listed hls i).1 hi
      have ho : ops.toList[i]? = some ops[i] := by simp
      have hset : ∀ j, (listed.setIfInBounds i true).getD j false = if j = i then true else listed.getD j false := fun j => by
        simp only [Array.getD_eq_getD_getElem?, Array.getElem?_setIfInBounds]
        by_cases hj : i = j
        · subst hj
          rw [if_pos rfl, if_pos rfl, if_pos (by omega)]
          rfl
        · rw [if_neg hj, if_neg (fun e => hj e.symm)]
      have hfun : (fun j => (listed.setIfInBounds i true).getD j false) = fun j => if j = i then true else listed.getD j false := funext hset
      have hstp := key (fun j => listed.getD j false) i ops[i] a w ho hdn h2 (h3 _ ho) hI (wpAny P .any ops Q fuel (listed.setIfInBounds i true)) (fun a' w' hI' => by
        refine ih _ a' w' (by simp [hls]) ?_ (fun j o' ho' hj e he hb => ?_) (by rw [hfun]; exact hI')
        · have h5 : ((List.range ops.size).filter fun j => !(if j = i then true else listed.getD j false)).length + 1 = ((List.range ops.size).filter fun j => !listed.getD j false).length := by
            have gen : ∀ (l : List Nat), l.Nodup → i ∈ l → (l.filter fun j => !(if j = i then true else listed.getD j false)).length + 1 = (l.filter fun j => !listed.getD j false).length := by
              intro l
              induction l with
              | nil => intro _ h; cases h
              | cons x r ihr =>
                intro hnd hmem
                rw [List.nodup_cons] at hnd
                rw [List.filter_cons, List.filter_cons]
                rcases List.mem_cons.1 hmem with rfl | hmem
                · rw [if_neg (by simp), if_pos (by rw [h2]; rfl), List.length_cons]
                  congr 2
                  refine List.filter_congr (fun j hj => ?_)
                  rw [if_neg (by rintro rfl; exact hnd.1 hj)]
                · have hne : x ≠ i := fun e => hnd.1 (e ▸ hmem)
                  rw [if_neg hne]
                  have := ihr hnd.2 hmem
                  split
                  · rw [List.length_cons, List.length_cons]; omega
                  · exact this
            exact gen _ List.nodup_range (List.mem_range.2 h1)
          simp only [hset]
          omega
        · simp only [hset] at hj ⊢
          by_cases hji : j = i
          · subst hji
            rw [ho] at ho'
            cases ho'
            have := h3 _ ho e he hb
            split
            · rfl
            · exact this
          · rw [if_neg hji] at hj
            have := hdn j o' ho' hj e he hb
            split
            · rfl
            · exact this)
      unfold wpOp
      rw [Array.getElem?_eq_getElem h1]
      simp only
      split
      · rename_i hwt
        rw [if_pos hwt] at hstp
        exact .inl hstp
      · rename_i hwt
        rw [if_neg hwt] at hstp
        exact hstp
  refine wp_region_any hm ?_
  have h0 : ∀ i, (Array.replicate ops.size false).getD i false = false := fun i => by
    simp only [Array.getD_eq_getD_getElem?, Array.getElem?_replicate]
    split <;> rfl
  refine all ops.size (Array.replicate ops.size false) a w.drew (by simp) ?_ (fun j o' _ hj => by simp only [h0] at hj; cases hj) ?_
  · rw [List.filter_eq_self.2 (fun i _ => by simp only [h0]; rfl), List.length_range]
  · obtain ⟨ρ, he, hsto, hf⟩ := hI
    refine ⟨ρ, ?_, ?_, ?_⟩
    · show EnvOk ρ w.drew (selE MV V _ ops.toList.zipIdx st.env) a
      rw [selE_none _ _ (fun x _ => h0 x.2)]
      have := killE_ok he (Ext.drew ρ w)
      exact this
    · show StoOk ρ w.drew (selM _ W _ ops.toList.zipIdx st.sto)
      rw [selM_none _ _ (fun x _ hb => by simp only [h0] at hb; cases hb)]
      exact hsto.drew
    · exact (hf.step (Ext.drew ρ w) (mv' := st'.mv) (fun t ht => hmv 0 (Nat.zero_le _) t (by rw [hS0]; exact ht)) (fun t ht => by simp at ht))
end
end Go.Proofs.YtabdcfcnngnnoaaDoor.E
