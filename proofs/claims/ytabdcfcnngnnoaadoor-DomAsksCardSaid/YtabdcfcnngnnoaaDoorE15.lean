/- Regions whose order is drawn: what clashes is in one order alone, so all orders come to the same. -/
import Derived.Test.YtabdcfcnngnnoaaDoorE14
import Derived.Orders
set_option linter.unusedVariables false
set_option linter.unusedSimpArgs false
namespace Go.Proofs.YtabdcfcnngnnoaaDoor.E
open Go
section
variable {P : Program} {o : Oper} {a : Act} {w w0 : World} {ρ ρ0 : Gh} {σ : List Row} {base : Nat} {hs : FH} {call : CallF}

/-! #### What an operation looks at -/
theorem mapA_congr {ea ea' : Operand → Option AV} : ∀ {l : List Operand}, (∀ x ∈ l, ea x = ea' x) → mapA ea l = mapA ea' l
  | [], _ => rfl
  | x :: r, h => by simp only [mapA, h x (by simp), mapA_congr (l := r) (fun y hy => h y (by simp [hy]))]
theorem mapParts_congr {ea ea' : Operand → Option AV} : ∀ {l : List (Nat × Operand)}, (∀ x ∈ l, ea x.2 = ea' x.2) → mapParts ea l = mapParts ea' l
  | [], _ => rfl
  | (i, x) :: r, h => by simp only [mapParts, h (i, x) (by simp), mapParts_congr (l := r) (fun y hy => h y (by simp [hy]))]
theorem optA_congr {ea ea' : Operand → Option AV} {x : Option Operand} (h : ∀ y, x = some y → ea y = ea' y) : optA ea x = optA ea' x := by
  cases x with
  | none => rfl
  | some y => simp only [optA, h y rfl]
theorem evOp_congr {own : List Nat} {ea ea' : Operand → Option AV} {op : Op} (h : ∀ x ∈ op.operands.toList, ea x = ea' x) : evOp P call base own ea σ op = evOp P call base own ea' σ op := by
  cases op with
  | move x | assign x | box _ x | load _ x | nilCheck x | unOp _ _ x | convert _ _ x | fieldAddr _ x _ | field _ x _ | extract x _ =>
    simp only [evOp, h x (by simp [Op.operands])]
  | pick c x y => simp only [evOp, h c (by simp [Op.operands]), h x (by simp [Op.operands]), h y (by simp [Op.operands])]
  | alloc e => rfl
  | build t parts =>
    simp only [evOp, mapParts_congr (l := parts.toList) (fun x hx => h x.2 (by simp only [Op.operands]; exact List.mem_map_of_mem hx))]
  | buildSlice t len parts =>
    simp only [evOp, mapParts_congr (l := parts.toList) (fun x hx => h x.2 (by simp only [Op.operands]; exact List.mem_map_of_mem hx))]
  | makeMap t r => cases r <;> rfl
  | mapUpdate t x y z | entryStore t x y z =>
    simp only [evOp, h x (by simp [Op.operands]), h y (by simp [Op.operands]), h z (by simp [Op.operands])]
  | lookup t x y _ | mapEntry t x y | store t x y | binOp _ _ x y _ | makeSlice t x y | indexAddr t x y | index t x y =>
    simp only [evOp, h x (by simp [Op.operands]), h y (by simp [Op.operands])]
  | makeFunc fn first caps =>
    cases fn with
    | func f => simp only [evOp, mapA_congr (l := caps.toList) (fun x hx => h x (by simp only [Op.operands, Array.toList_append]; exact List.mem_append_right _ hx))]
    | _ => rfl
  | slice t x lo hi mx =>
    simp only [evOp, h x (by simp [Op.operands]), optA_congr (x := lo) (fun y hy => h y (by simp [Op.operands, hy])), optA_congr (x := hi) (fun y hy => h y (by simp [Op.operands, hy])), optA_congr (x := mx) (fun y hy => h y (by simp [Op.operands, hy]))]
  | call c =>
    have ha := mapA_congr (ea := ea) (ea' := ea') (l := c.args.toList) (fun x hx => h x (by simp only [Op.operands, Call.operands, Array.toList_append]; exact List.mem_append_right _ hx))
    simp only [evOp, ha]
    cases hc : c.callee with
    | value f => simp only [h f (by simp [Op.operands, Call.operands, hc])]
    | _ => rfl
  | _ => rfl
theorem sliceA_os {t : TypeId} {x : AV} {lo hi : Option AV} {σ σ' : List Row} (h : isOs (some x) = false) : sliceA P σ t x lo hi = sliceA P σ' t x lo hi := by
  unfold sliceA
  cases P.underlying t with
  | none => rfl
  | some u => cases x <;> first | (cases u <;> rfl) | (rename_i v; cases u <;> cases v <;> rfl) | (simp [isOs] at h; done)
theorem slice3A_os {t : TypeId} {x : AV} {lo hi mx : Option AV} {σ σ' : List Row} (h : isOs (some x) = false) : slice3A P σ t x lo hi mx = slice3A P σ' t x lo hi mx := by
  cases x <;> first | (cases lo <;> rfl) | cases h
theorem indexAddrA_os {t : TypeId} {x i : AV} {σ σ' : List Row} (h : isOs (some x) = false) : indexAddrA P σ t x i = indexAddrA P σ' t x i := by
  cases x <;> first | rfl | cases h
theorem touchV_congr {own : List Nat} {ea ea' : Operand → Option AV} {op : Op} (h : ∀ x ∈ op.operands.toList, ea x = ea' x) : touchV own ea op = touchV own ea' op := by
  cases op with
  | load _ x => simp only [touchV, h x (by simp [Op.operands])]
  | buildSlice t len parts =>
    have : partsFree ea parts = partsFree ea' parts := by
      unfold partsFree
      rw [Bool.eq_iff_iff, List.all_eq_true, List.all_eq_true]
      have hp : ∀ p ∈ parts.toList, ea p.2 = ea' p.2 := fun p hp => h p.2 (by simp only [Op.operands]; exact List.mem_map_of_mem hp)
      exact ⟨fun g p hm => by rw [← hp p hm]; exact g p hm, fun g p hm => by rw [hp p hm]; exact g p hm⟩
    simp only [touchV, this]
  | indexAddr t x y => simp only [touchV, h x (by simp [Op.operands])]
  | slice t x lo hi mx => simp only [touchV, h x (by simp [Op.operands])]
  | call c =>
    have : appFree ea c = appFree ea' c := by
      unfold appFree
      split
      · rename_i x y hcal hargs
        rw [h x (by simp [Op.operands, Call.operands, hargs]), h y (by simp [Op.operands, Call.operands, hargs])]
      · rfl
    simp only [touchV, this]
  | _ => rfl
theorem freezeV_free {x : AV} (h : toksV x = []) (σ σ' : List Row) : freezeV σ x = freezeV σ' x ∧ ∀ a, freezeV σ x = some a → a.2 = [] := by
  cases x with
  | os t a b => simp [toksV] at h
  | v x =>
    refine ⟨rfl, fun a ha => ?_⟩
    simp only [freezeV] at ha
    split at ha <;> cases ha
    rfl
  | nil => exact ⟨rfl, fun a ha => by simp [freezeV] at ha; subst ha; rfl⟩
  | sl xs => exact ⟨rfl, fun a ha => by simp [freezeV] at ha; subst ha; rfl⟩
  | _ => exact ⟨rfl, fun a ha => by simp [freezeV] at ha⟩
theorem freezeL_free : ∀ {l : List AV}, toksL l = [] → ∀ (σ σ' : List Row), freezeL σ l = freezeL σ' l ∧ ∀ a, freezeL σ l = some a → a.2 = []
  | [], _, σ, σ' => ⟨rfl, fun a ha => by simp [freezeL] at ha; subst ha; rfl⟩
  | x :: r, h, σ, σ' => by
    simp only [toksL, List.append_eq_nil_iff] at h
    obtain ⟨h1, h2⟩ := freezeV_free h.1 σ σ'
    obtain ⟨h3, h4⟩ := freezeL_free h.2 σ σ'
    refine ⟨by simp only [freezeL, h1, h3], fun a ha => ?_⟩
    simp only [freezeL] at ha
    obtain ⟨u, hu, ha⟩ := Option.bind_eq_some_iff.1 ha
    obtain ⟨v, hv, ha⟩ := Option.bind_eq_some_iff.1 ha
    cases ha
    rw [h2 u hu, h4 v hv]
    rfl
theorem freezeLL_free : ∀ {l : List (List AV)}, (∀ r ∈ l, toksL r = []) → ∀ (σ σ' : List Row), freezeLL σ l = freezeLL σ' l ∧ ∀ a, freezeLL σ l = some a → a.2 = []
  | [], _, σ, σ' => ⟨rfl, fun a ha => by simp [freezeLL] at ha; subst ha; rfl⟩
  | x :: r, h, σ, σ' => by
    obtain ⟨h1, h2⟩ := freezeL_free (h x (by simp)) σ σ'
    obtain ⟨h3, h4⟩ := freezeLL_free (l := r) (fun y hy => h y (by simp [hy])) σ σ'
    refine ⟨by simp only [freezeLL, h1, h3], fun a ha => ?_⟩
    simp only [freezeLL] at ha
    obtain ⟨u, hu, ha⟩ := Option.bind_eq_some_iff.1 ha
    obtain ⟨v, hv, ha⟩ := Option.bind_eq_some_iff.1 ha
    cases ha
    rw [h2 u hu, h4 v hv]
    rfl
theorem fillRows_free {s : Nat} : ∀ (ps : List (Nat × AV)) (xs ys : List (List AV)), fillRows s xs ps = some ys → (∀ r ∈ xs, toksL r = []) → (∀ p ∈ ps, toksV p.2 = []) → ∀ r ∈ ys, toksL r = []
  | [], xs, ys, h, hx, _ => by simp [fillRows] at h; subst h; exact hx
  | (i, x) :: ps, xs, ys, h, hx, hp => by
    simp only [fillRows] at h
    split at h
    · refine fillRows_free ps _ ys h (fun r hr => ?_) (fun p hp' => hp p (by simp [hp']))
      rcases List.mem_or_eq_of_mem_set hr with hr | hr
      · exact hx r hr
      · subst hr
        have h0 := hp (i, x) (by simp)
        revert h0
        cases x <;> simp [cellsA, toksL, toksV]
    · cases h
theorem frozenL_toks {l : List AV} (h : l.all frozen = true) : toksL l = [] := by
  induction l with
  | nil => rfl
  | cons x l ih =>
    simp only [List.all_cons, Bool.and_eq_true] at h
    simp only [toksL, List.append_eq_nil_iff]
    exact ⟨frozen_toks h.1, ih h.2⟩
theorem mapParts_free {ea : Operand → Option AV} : ∀ (l : List (Nat × Operand)) (ps : List (Nat × AV)), mapParts ea l = some ps → (∀ p ∈ l, (match ea p.2 with | some x => (toksV x).isEmpty | none => false) = true) → ∀ p ∈ ps, toksV p.2 = []
  | [], ps, h, _ => by simp [mapParts] at h; subst h; intro p hp; cases hp
  | (i, o) :: l, ps, h, hf => by
    simp only [mapParts] at h
    obtain ⟨x, hx, h⟩ := Option.bind_eq_some_iff.1 h
    obtain ⟨qs, hq, rfl⟩ := Option.map_eq_some_iff.1 h
    have h0 := hf (i, o) (by simp)
    simp only [hx] at h0
    intro p hp
    rcases List.mem_cons.1 hp with rfl | hp
    · simpa using h0
    · exact mapParts_free l qs hq (fun p hp => hf p (by simp [hp])) p hp
theorem appFree_args {ea : Operand → Option AV} {c : Call} (h : appFree ea c = true) : ∃ xs ys, ∃ _ : Unit, c.callee = .builtin .append ∧ mapA ea c.args.toList = some [.cl xs, .sl ys] := by
  unfold appFree at h
  split at h
  case h_2 => cases h
  rename_i x y hcal hargs
  rw [Bool.and_eq_true] at h
  obtain ⟨h1, h2⟩ := h
  split at h1
  case h_2 => cases h1
  rename_i xs hx
  split at h2
  case h_2 => cases h2
  rename_i ys hy
  exact ⟨xs, ys, (), hcal, by rw [hargs]; simp [mapA, hx, hy]⟩
theorem builtin_app {xs ys : List (List AV)} (ts : List TypeId) (s : List Row) : builtinA P base [] .append ts [.cl xs, .sl ys] s = ((builtinA P base [] .append ts [.cl xs, .sl ys] []).map (·.val)).map fun x => (⟨x, s, [], false⟩ : Out) := by
  cases ts with
  | nil => rfl
  | cons t rest =>
    unfold builtinA
    simp only
    cases hu : P.underlying t with
    | none => rfl
    | some d =>
      cases d <;> try rfl
      cases rest with
      | nil => rfl
      | cons u rest =>
        cases rest with
        | cons _ _ => rfl
        | nil =>
          simp only
          cases hu2 : P.underlying u with
          | none => rfl
          | some d2 =>
            cases d2 <;> try rfl
            simp only
            cases elemA P _ with
            | none => rfl
            | some q =>
              simp only [Option.bind_some, listOf]
              split
              · rw [show ∀ (x : AV) (ys : List (List AV)) (s : List Row), appendA base [] q.1 s x ys = appendA0 base [] q.1 s x ys from fun _ _ _ => if_neg (by simp)]; rw [show ∀ (x : AV) (ys : List (List AV)) (s : List Row), appendA base [] q.1 s x ys = appendA0 base [] q.1 s x ys from fun _ _ _ => if_neg (by simp)]; simp only [appendA0, atEnd, appendO, freshArr]; split <;> rfl
              · rfl
theorem build_clip {t : TypeId} {len : Nat} {ps : List (Nat × AV)} (s : List Row) : buildSliceA P base [CLIP] t len ps s = ((buildSliceA P base [CLIP] t len ps []).map (·.val)).map fun x => (⟨x, s, [], false⟩ : Out) := by
  unfold buildSliceA
  rw [if_pos rfl, if_pos rfl]
  cases ps with
  | cons _ _ => rfl
  | nil =>
    simp only
    split
    · cases P.underlying t with
      | none => rfl
      | some d =>
        cases d <;> try rfl
        simp only
        cases elemA P _ <;> rfl
    · rfl
theorem evOp_untouched {own : List Nat} {ea : Operand → Option AV} {op : Op} {out : Out} (ht : touchV own ea op = false) (h : evOp P call base own ea σ op = some out) :
    out = ⟨out.val, σ, [], false⟩ ∧ ∀ σ', evOp P call base own ea σ' op = some ⟨out.val, σ', [], false⟩ := by
  have fin : ∀ {f : List Row → Option Out} {x : Option AV}, (∀ s, f s = x.map fun x => (⟨x, s, [], false⟩ : Out)) → f σ = some out → out = ⟨out.val, σ, [], false⟩ ∧ ∀ σ', f σ' = some ⟨out.val, σ', [], false⟩ := by
    intro f x hf h
    rw [hf] at h
    obtain ⟨v, rfl, rfl⟩ := Option.map_eq_some_iff.1 h
    exact ⟨rfl, fun s => by rw [hf]; rfl⟩
  cases op with
  | move x => exact fin (f := fun s => evOp P call base own ea s (.move x)) (x := ea x) (fun s => rfl) h
  | assign x => exact fin (f := fun s => evOp P call base own ea s (.assign x)) (x := ea x) (fun s => rfl) h
  | pick c x y => exact fin (f := fun s => evOp P call base own ea s (.pick c x y)) (x := pickA (ea c) (ea x) (ea y)) (fun s => rfl) h
  | build t parts =>
    refine fin (f := fun s => evOp P call base own ea s (.build t parts)) (x := (mapParts ea parts.toList).bind fun ps => buildA P t ps) (fun s => ?_) h
    simp only [evOp]
    cases mapParts ea parts.toList <;> rfl
  | nilCheck x =>
    refine fin (f := fun s => evOp P call base own ea s (.nilCheck x)) (x := (ea x).bind nilA) (fun s => ?_) h
    simp only [evOp]
    cases ea x <;> rfl
  | binOp op t x y yt =>
    refine fin (f := fun s => evOp P call base own ea s (.binOp op t x y yt)) (x := if isNilC y then (ea x).bind fun x => nilTest P op t x else (ea x).bind fun x => (ea y).bind fun y => binA P op t x y) (fun s => ?_) h
    simp only [evOp]
    split
    · cases ea x <;> rfl
    cases ea x with
    | none => rfl
    | some v => cases ea y <;> rfl
  | unOp op t x =>
    refine fin (f := fun s => evOp P call base own ea s (.unOp op t x)) (x := (ea x).bind fun x => unA op x) (fun s => ?_) h
    simp only [evOp]
    cases ea x <;> rfl
  | convert s d x =>
    refine fin (f := fun q => evOp P call base own ea q (.convert s d x)) (x := (ea x).bind fun x => convA P s d x) (fun q => ?_) h
    simp only [evOp]
    cases ea x <;> rfl
  | makeFunc fn first caps =>
    cases fn with
    | func f =>
      refine fin (f := fun s => evOp P call base own ea s (.makeFunc (.func f) first caps)) (x := if first.isEmpty then (mapA ea caps.toList).bind fun cs => some (.clo f cs) else none) (fun s => ?_) h
      simp only [evOp]
      split
      · cases mapA ea caps.toList <;> rfl
      · rfl
    | _ => simp [evOp] at h
  | fieldAddr s x f =>
    refine fin (f := fun q => evOp P call base own ea q (.fieldAddr s x f)) (x := (ea x).bind fun x => fieldAddrA P s x f) (fun q => ?_) h
    simp only [evOp]
    cases ea x <;> rfl
  | field t x f =>
    refine fin (f := fun q => evOp P call base own ea q (.field t x f)) (x := (ea x).bind fun x => fieldA P t x f) (fun q => ?_) h
    simp only [evOp]
    cases ea x <;> rfl
  | index t x i =>
    refine fin (f := fun q => evOp P call base own ea q (.index t x i)) (x := (ea x).bind fun x => (ea i).bind fun i => indexA P t x i) (fun q => ?_) h
    simp only [evOp]
    cases ea x with
    | none => rfl
    | some v => cases ea i <;> rfl
  | extract x i =>
    refine fin (f := fun q => evOp P call base own ea q (.extract x i)) (x := (ea x).bind fun x => extractA x i) (fun q => ?_) h
    simp only [evOp]
    cases ea x <;> rfl
  | call c =>
    by_cases hA : own = [] ∧ appFree ea c = true
    · obtain ⟨rfl, hA⟩ := hA
      obtain ⟨xs, ys, ts, hcal, hm⟩ := appFree_args hA
      refine fin (f := fun s => evOp P call base [] ea s (.call c)) (x := (builtinA P base [] .append c.argTypes.toList [.cl xs, .sl ys] []).map (·.val)) (fun s => ?_) h
      simp only [evOp, hcal, hm, Option.bind_some, touchesB, if_true]
      exact builtin_app _ s
    have hAf : (own.isEmpty && appFree ea c) = false := by
      cases h1 : own.isEmpty with
      | false => rfl
      | true =>
        cases h2 : appFree ea c with
        | false => rfl
        | true => exact absurd ⟨List.isEmpty_iff.1 h1, h2⟩ hA
    simp only [touchV, touches, hAf, Bool.not_false, Bool.true_and] at ht
    split at ht
    · rename_i b hc
      refine fin (f := fun s => evOp P call base own ea s (.call c)) (x := (mapA ea c.args.toList).bind fun args => pureB P b c.argTypes.toList args) (fun s => ?_) h
      simp only [evOp, hc, ht]
      cases mapA ea c.args.toList <;> rfl
    · cases ht
  | buildSlice t len parts =>
    simp only [touchV, Bool.not_eq_false', Bool.and_eq_true, Bool.or_eq_true, beq_iff_eq, List.isEmpty_iff] at ht
    obtain ⟨hown, hparts⟩ := ht
    by_cases hcl : own = [CLIP]
    · subst hcl
      refine fin (f := fun s => evOp P call base [CLIP] ea s (.buildSlice t len parts)) (x := (mapParts ea parts.toList).bind fun ps => (buildSliceA P base [CLIP] t len ps []).map (·.val)) (fun s => ?_) h
      simp only [evOp]
      cases mapParts ea parts.toList with
      | none => rfl
      | some ps => exact build_clip s
    have hown : own = [] := hown.resolve_right hcl
    subst hown
    have hps := List.all_eq_true.1 hparts
    simp only [evOp] at h
    cases hm : mapParts ea parts.toList with
    | none => rw [hm] at h; cases h
    | some ps =>
    rw [hm] at h
    simp only [Option.bind_some] at h
    have hfree := mapParts_free _ _ hm hps
    have key : ∀ s : List Row, evOp P call base [] ea s (.buildSlice t len parts) = (buildSliceA P base [] t len ps s) := fun s => by simp only [evOp, hm, Option.bind_some]
    unfold buildSliceA at h
    rw [if_neg (by simp)] at h
    split at h
    case h_2 => cases h
    rename_i e hu
    obtain ⟨q, hq, h⟩ := Option.bind_eq_some_iff.1 h
    split at h
    case isFalse => cases h
    rename_i hle
    obtain ⟨xs, hxs, h⟩ := Option.bind_eq_some_iff.1 h
    obtain ⟨fz, hfz, h⟩ := Option.bind_eq_some_iff.1 h
    obtain ⟨o, ho, rfl⟩ := Option.map_eq_some_iff.1 h
    have hz : q.2.all frozen = true := by
      unfold elemA at hq
      obtain ⟨_, _, hq⟩ := Option.bind_eq_some_iff.1 hq
      obtain ⟨_, _, hq⟩ := Option.bind_eq_some_iff.1 hq
      split at hq
      · rename_i hc; cases hq; exact hc.2.2.1
      · cases hq
    have hxf : ∀ r ∈ xs, toksL r = [] := fillRows_free _ _ _ hxs (fun r hr => by
      rw [List.mem_replicate] at hr
      rw [hr.2]
      exact frozenL_toks hz) hfree
    have hfz2 : fz.2 = [] := (freezeLL_free hxf σ σ).2 fz hfz
    simp only [freshArr] at ho
    cases ho
    refine ⟨by simp [hfz2, giveUp], fun σ' => ?_⟩
    rw [key]
    unfold buildSliceA
    rw [if_neg (by simp), hu]
    simp only
    rw [hq]
    simp only [Option.bind_some]
    rw [if_pos hle, hxs]
    simp only [Option.bind_some]
    rw [← (freezeLL_free hxf σ σ').1, hfz]
    simp [freshArr, hfz2, giveUp]
  | slice t x lo hi mx =>
    refine fin (f := fun s => evOp P call base own ea s (.slice t x lo hi mx)) (x := (ea x).bind fun x => (optA ea lo).bind fun lo => (optA ea hi).bind fun hi => (optA ea mx).bind fun mx => match mx with | none => sliceA P σ t x lo hi | some m => slice3A P σ t x lo hi (some m)) (fun s => ?_) h
    simp only [touchV] at ht
    simp only [evOp]
    cases hx : ea x with
    | none => rfl
    | some v =>
      rw [hx] at ht
      cases optA ea lo with
      | none => rfl
      | some lo =>
      cases optA ea hi with
      | none => rfl
      | some hi =>
      cases optA ea mx with
      | none => rfl
      | some mx =>
      cases mx with
      | none => simp only [Option.bind_some]; rw [sliceA_os (σ' := σ) ht]
      | some m => simp only [Option.bind_some]; rw [slice3A_os (σ' := σ) ht]
  | indexAddr t x i =>
    refine fin (f := fun s => evOp P call base own ea s (.indexAddr t x i)) (x := (ea x).bind fun x => (ea i).bind fun i => indexAddrA P σ t x i) (fun s => ?_) h
    simp only [touchV] at ht
    simp only [evOp]
    cases hx : ea x with
    | none => rfl
    | some v =>
      rw [hx] at ht
      cases ea i with
      | none => rfl
      | some i => simp only [Option.bind_some]; rw [indexAddrA_os (σ' := σ) ht]
  | load t x =>
    refine fin (f := fun s => evOp P call base own ea s (.load t x)) (x := (ea x).bind fun a => (cellsAt σ a).bind fun cs => loadA P t cs) (fun s => ?_) h
    simp only [touchV] at ht
    simp only [evOp]
    cases hx : ea x with
    | none => rfl
    | some v =>
      rw [hx] at ht
      cases v <;> first | (simp [isRp] at ht; done) | skip
      simp only [Option.bind_some, cellsAt]
  | _ => simp [touchV, touches] at ht
end
end Go.Proofs.YtabdcfcnngnnoaaDoor.E
