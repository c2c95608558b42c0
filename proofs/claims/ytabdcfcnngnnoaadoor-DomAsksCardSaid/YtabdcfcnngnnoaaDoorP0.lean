/- Programs as data: instructions, blocks, functions; as rows, and back. -/
import Derived.Test.YtabdcfcnngnnoaaDoorC0
set_option linter.unusedVariables false
set_option linter.unusedSimpArgs false
namespace Go.Proofs.YtabdcfcnngnnoaaDoor.E
open Go
structure XI where
  op : Int
  d : Int
  a : Int
  b : Int
  n : Int
  m : Int
  args : List Int
  deriving DecidableEq, Inhabited
structure XB where
  code : List XI
  deriving DecidableEq, Inhabited
structure XF where
  kinds : List Int
  base : List Int
  params : Int
  result : Int
  blocks : List XB
  deriving DecidableEq, Inhabited
structure XP where
  funcs : List XF
  deriving DecidableEq, Inhabited
def encIn (x : XI) : List AV := [goI x.op, goI x.d, goI x.a, goI x.b, goI x.n, goI x.m, .sl (x.args.map encI)]
def encB (x : XB) : List AV := [.sl (x.code.map encIn)]
def encF (x : XF) : List AV := [.sl (x.kinds.map encI), .sl (x.base.map encI), goI x.params, goI x.result, .sl (x.blocks.map encB)]
def encP (x : XP) : List AV := [.sl (x.funcs.map encF)]
def avF (x : XF) : AV := .agg (encF x)
def avP (x : XP) : AV := .agg (encP x)
def avI (x : XI) : AV := .agg (encIn x)
/-! And back. -/
def decI (l : List (List AV)) : List Int := l.map fun r => rdI r 0
def decIn (r : List AV) : XI := ⟨rdI r 0, rdI r 1, rdI r 2, rdI r 3, rdI r 4, rdI r 5, decI (rdL r 6)⟩
def decB (r : List AV) : XB := ⟨(rdL r 0).map decIn⟩
def decF (r : List AV) : XF := ⟨decI (rdL r 0), decI (rdL r 1), rdI r 2, rdI r 3, (rdL r 4).map decB⟩
theorem decI_map (l : List Int) : decI (l.map encI) = l := by
  unfold decI; rw [List.map_map]; exact List.map_id' l
theorem decIn_enc (x : XI) : decIn (encIn x) = x := by
  show (⟨x.op, x.d, x.a, x.b, x.n, x.m, decI (x.args.map encI)⟩ : XI) = x
  rw [decI_map]
theorem decIns_map (l : List XI) : (l.map encIn).map decIn = l := by
  rw [List.map_map, show decIn ∘ encIn = id from funext decIn_enc, List.map_id]
theorem decB_enc (x : XB) : decB (encB x) = x := by
  show (⟨(x.code.map encIn).map decIn⟩ : XB) = x
  rw [decIns_map]
theorem decBs_map (l : List XB) : (l.map encB).map decB = l := by
  rw [List.map_map, show decB ∘ encB = id from funext decB_enc, List.map_id]
theorem decF_enc (x : XF) : decF (encF x) = x := by
  show (⟨decI (x.kinds.map encI), decI (x.base.map encI), x.params, x.result, (x.blocks.map encB).map decB⟩ : XF) = x
  rw [decI_map, decI_map, decBs_map]
theorem decFs_map (l : List XF) : (l.map encF).map decF = l := by
  rw [List.map_map, show decF ∘ encF = id from funext decF_enc, List.map_id]
namespace U
def ins (l : List XI) (i : Nat) : XI := l.getD i default
def blk (l : List XB) (i : Nat) : XB := l.getD i default
def fun_ (l : List XF) (i : Nat) : XF := l.getD i default
end U
theorem rowIn {l : List XI} {i : Nat} (h : i < l.length) : rowAt (l.map encIn) i = encIn (U.ins l i) := rowAt_map h
theorem getIn {l : List XI} {i : Nat} (h : i < l.length) : (l.map encIn)[i]? = some (encIn (U.ins l i)) := rows_map h
theorem rowB {l : List XB} {i : Nat} (h : i < l.length) : rowAt (l.map encB) i = encB (U.blk l i) := rowAt_map h
theorem getB {l : List XB} {i : Nat} (h : i < l.length) : (l.map encB)[i]? = some (encB (U.blk l i)) := rows_map h
theorem rowF {l : List XF} {i : Nat} (h : i < l.length) : rowAt (l.map encF) i = encF (U.fun_ l i) := rowAt_map h
theorem getF {l : List XF} {i : Nat} (h : i < l.length) : (l.map encF)[i]? = some (encF (U.fun_ l i)) := rows_map h
theorem ins_mem {l : List XI} {i : Nat} (h : i < l.length) : U.ins l i ∈ l := getD_mem h
theorem blk_mem {l : List XB} {i : Nat} (h : i < l.length) : U.blk l i ∈ l := getD_mem h
theorem fun_mem {l : List XF} {i : Nat} (h : i < l.length) : U.fun_ l i ∈ l := getD_mem h
theorem dropIn {l : List XI} {i : Nat} (h : i < l.length) : l.drop i = U.ins l i :: l.drop (i + 1) := drop_cons' l h
theorem dropB {l : List XB} {i : Nat} (h : i < l.length) : l.drop i = U.blk l i :: l.drop (i + 1) := drop_cons' l h
theorem dropF {l : List XF} {i : Nat} (h : i < l.length) : l.drop i = U.fun_ l i :: l.drop (i + 1) := drop_cons' l h
/-! How great a program is. -/
namespace U
def gI : List XI → Int → Int
  | [], n => n
  | x :: l, n => if n ≤ 3000 then gI l (n + x.args.length) else n
def gB : List XB → Int → Int
  | [], n => n
  | b :: l, n => if n ≤ 3000 then gB l (gI b.code (n + b.code.length)) else n
def gF : List XF → Int → Int
  | [], n => n
  | f :: l, n => if n ≤ 3000 then gF l (gB f.blocks (n + f.kinds.length + f.base.length + f.blocks.length)) else n
def great (p : XP) : Bool := decide (gF p.funcs p.funcs.length > 3000)
end U
/-- No longer than what can be reached. -/
def Long (n : Nat) : Prop := n ≤ 140737488355328
def HandI (x : XI) : Prop := Long x.args.length
def HandB (b : XB) : Prop := Long b.code.length ∧ ∀ x ∈ b.code, HandI x
def HandF (f : XF) : Prop := Long f.kinds.length ∧ Long f.base.length ∧ Long f.blocks.length ∧ ∀ b ∈ f.blocks, HandB b
/-- Programs as they may be handed in. -/
def HandP (p : XP) : Prop := Long p.funcs.length ∧ ∀ f ∈ p.funcs, HandF f
theorem gI_ge : ∀ (l : List XI) (n : Int), n ≤ U.gI l n
  | [], n => Int.le_refl _
  | x :: l, n => by
    unfold U.gI
    split
    · exact Int.le_trans (by omega) (gI_ge l _)
    · exact Int.le_refl _
theorem gB_ge : ∀ (l : List XB) (n : Int), n ≤ U.gB l n
  | [], n => Int.le_refl _
  | x :: l, n => by
    unfold U.gB
    split
    · exact Int.le_trans (Int.le_trans (by omega) (gI_ge x.code _)) (gB_ge l _)
    · exact Int.le_refl _
theorem gF_ge : ∀ (l : List XF) (n : Int), n ≤ U.gF l n
  | [], n => Int.le_refl _
  | x :: l, n => by
    unfold U.gF
    split
    · exact Int.le_trans (Int.le_trans (by omega) (gB_ge x.blocks _)) (gF_ge l _)
    · exact Int.le_refl _
theorem gI_in : ∀ (l : List XI) (n : Int), 0 ≤ n → U.gI l n ≤ 3000 → ∀ x ∈ l, x.args.length ≤ 3000
  | y :: l, n, h0, h, x, hx => by
    unfold U.gI at h
    split at h
    · rcases List.mem_cons.1 hx with rfl | hx
      · have := gI_ge l (n + x.args.length); omega
      · exact gI_in l _ (by omega) h x hx
    · omega
theorem gB_in : ∀ (l : List XB) (n : Int), 0 ≤ n → U.gB l n ≤ 3000 → ∀ b ∈ l, b.code.length ≤ 3000 ∧ ∀ x ∈ b.code, x.args.length ≤ 3000
  | y :: l, n, h0, h, x, hx => by
    unfold U.gB at h
    split at h
    · have h1 := gI_ge y.code (n + y.code.length)
      have h2 := gB_ge l (U.gI y.code (n + y.code.length))
      rcases List.mem_cons.1 hx with rfl | hx
      · exact ⟨by omega, gI_in x.code _ (by omega) (Int.le_trans h2 h)⟩
      · exact gB_in l _ (by omega) h x hx
    · omega
/-- Lists of a program that isn't great. -/
def SmallB (b : XB) : Prop := b.code.length ≤ 3000 ∧ ∀ x ∈ b.code, x.args.length ≤ 3000
def SmallF (f : XF) : Prop := f.kinds.length ≤ 3000 ∧ f.base.length ≤ 3000 ∧ f.blocks.length ≤ 3000 ∧ ∀ b ∈ f.blocks, SmallB b
def SmallP (p : XP) : Prop := p.funcs.length ≤ 3000 ∧ ∀ f ∈ p.funcs, SmallF f
theorem gF_in : ∀ (l : List XF) (n : Int), 0 ≤ n → U.gF l n ≤ 3000 → ∀ f ∈ l, SmallF f
  | y :: l, n, h0, h, x, hx => by
    unfold U.gF at h
    split at h
    · have h1 := gB_ge y.blocks (n + y.kinds.length + y.base.length + y.blocks.length)
      have h2 := gF_ge l (U.gB y.blocks (n + y.kinds.length + y.base.length + y.blocks.length))
      rcases List.mem_cons.1 hx with rfl | hx
      · exact ⟨by omega, by omega, by omega, gB_in x.blocks _ (by omega) (Int.le_trans h2 h)⟩
      · exact gF_in l _ (by omega) h x hx
    · omega
theorem small_of {p : XP} (h : U.great p = false) : SmallP p := by
  unfold U.great at h
  have h1 := of_decide_eq_false h
  have h2 := gF_ge p.funcs p.funcs.length
  exact ⟨by omega, gF_in p.funcs p.funcs.length (by omega) (by omega)⟩
theorem gI_le : ∀ (l : List XI) (n : Int), (∀ x ∈ l, HandI x) → n ≤ 3000 + 140737488355328 → U.gI l n ≤ 3000 + 140737488355328
  | [], n, _, h => h
  | x :: l, n, hl, h => by
    unfold U.gI
    split
    · have hx : x.args.length ≤ 140737488355328 := hl x (by simp)
      exact gI_le l _ (fun y hy => hl y (by simp [hy])) (by omega)
    · exact h
theorem gB_le : ∀ (l : List XB) (n : Int), (∀ x ∈ l, HandB x) → n ≤ 3000 + 3 * 140737488355328 → U.gB l n ≤ 3000 + 3 * 140737488355328
  | [], n, _, h => h
  | x :: l, n, hl, h => by
    unfold U.gB
    split
    · obtain ⟨h1, h2⟩ := hl x (by simp)
      have h1' : x.code.length ≤ 140737488355328 := h1
      have := gI_le x.code (n + x.code.length) h2 (by omega)
      exact gB_le l _ (fun y hy => hl y (by simp [hy])) (by omega)
    · exact h
theorem gF_le : ∀ (l : List XF) (n : Int), (∀ x ∈ l, HandF x) → n ≤ 3000 + 3 * 140737488355328 → U.gF l n ≤ 3000 + 3 * 140737488355328
  | [], n, _, h => h
  | x :: l, n, hl, h => by
    unfold U.gF
    split
    · obtain ⟨h1, h2, h3, h4⟩ := hl x (by simp)
      have h1' : x.kinds.length ≤ 140737488355328 := h1
      have h2' : x.base.length ≤ 140737488355328 := h2
      have h3' : x.blocks.length ≤ 140737488355328 := h3
      have := gB_le x.blocks (n + x.kinds.length + x.base.length + x.blocks.length) h4 (by omega)
      exact gF_le l _ (fun y hy => hl y (by simp [hy])) (by omega)
    · exact h
end Go.Proofs.YtabdcfcnngnnoaaDoor.E
