/- FlowOrder told whole: the order has the reached blocks, each once, 0 first, and leads back just where there is a way round. -/
import Derived.Test.Ytjgnnjoejlijjaa05n
set_option linter.unusedVariables false
set_option linter.unusedSimpArgs false
set_option maxRecDepth 100000
namespace Go.Proofs.Ytjgnnjoejlijjaa.E
open Go
theorem loop10_14 (X : List (List AV)) (Y : List AV) (i : Nat) (l : List Int) (hll : l.length < 1000000) (hnd : l.Nodup) : ∀ (d k : Nat) (pl : List Int), k + d = l.length → (∀ x ∈ l.drop k, 0 ≤ x ∧ x < pl.length ∧ U.nt pl x.toNat = 0) →
    ∃ pl', LoopTo Try.prog H (H 10) 0 (loopOf Try.prog 10 14) (mkS 140 [(1, .pt 0 0 0), (3, goI i), (4, .pt 1 0 0), (5, .sl (l.map encI)), (7, .os 2 0 pl.length), (8, goI k)] [.box [.sl X], .box Y, .arr 1 (pl.map encI), .dead])
        (.exit 2, mkS 140 [(1, .pt 0 0 0), (3, goI i), (4, .pt 1 0 0), (7, .os 2 0 pl'.length)] [.box [.sl X], .box Y, .arr 1 (pl'.map encI), .dead]) ∧ pl'.length = pl.length ∧
      (∀ j, k ≤ j → j < l.length → U.nt pl' (U.nt l j).toNat = j + 1) ∧ ∀ x : Nat, (x : Int) ∉ l.drop k → U.nt pl' x = U.nt pl x
  | 0, k, pl, hd, hx => by
    have elen : (l.map encI).length = l.length := List.length_map _
    refine ⟨pl, turnK (t10_14 X Y i k l pl _) ?_, rfl, fun j h1 h2 => by omega, fun x _ => rfl⟩
    rw [elen, decide_eq_false (by omega)]; exact rfl
  | d + 1, k, pl, hd, hx => by
    have elen : (l.map encI).length = l.length := List.length_map _
    have hk : k < l.length := by omega
    have ed : l.drop k = U.nt l k :: l.drop (k + 1) := drop_cons' l hk
    have e1 : rdI (rowAt (l.map encI) k) 0 = U.nt l k := by rw [rowI hk]; rfl
    have hnd' : (U.nt l k :: l.drop (k + 1)).Nodup := by rw [← ed]; exact hnd.sublist (List.drop_sublist _ _)
    have hnk := (List.nodup_cons.1 hnd').1
    obtain ⟨x0, x1, x2⟩ := hx (U.nt l k) (by rw [ed]; simp)
    obtain ⟨pl', k1, k2, k3, k4⟩ := loop10_14 X Y i l hll hnd d (k + 1) (pl.set (U.nt l k).toNat ((k + 1 : Nat) : Int)) (by omega) (fun x hx' => by
      have := hx x (by rw [ed]; exact List.mem_cons_of_mem _ hx')
      refine ⟨this.1, by rw [List.length_set]; exact this.2.1, ?_⟩
      rw [nt_set _ _ _ _ (by omega), if_neg (fun q : x.toNat = (U.nt l k).toNat => hnk ((show x = U.nt l k by omega) ▸ hx'))]
      exact this.2.2)
    have hp : (U.nt l k).toNat < pl.length := by omega
    refine ⟨pl', turnK (t10_14 X Y i k l pl _) ?_, by rw [k2, List.length_set], fun j h1 h2 => ?_, fun x hx' => ?_⟩
    · rw [elen, decide_eq_true (by omega), e1, getI hk, decide_eq_false (show ¬ U.nt l k < 0 by omega), decide_eq_false (show ¬ U.nt l k ≥ pl.length by omega), Nat.zero_add, rowI hp, getI hp, wrapS hk hll]
      have e2 : rdI [goI (U.nt pl (U.nt l k).toNat)] 0 = U.nt pl (U.nt l k).toNat := rfl
      rw [e2, x2, set_mapI]
      rw [List.length_set] at k1
      exact ⟨⟨by omega, rfl⟩, ⟨by omega, rfl⟩, ⟨by omega, rfl⟩, ⟨by omega, by omega, by rw [List.length_map]; omega⟩, rfl, ⟨by omega, rfl⟩, ⟨by omega, by omega, by rw [List.length_map]; omega⟩, rfl, k1⟩
    · by_cases e : j = k
      · subst e
        rw [k4 _ (by rw [show (((U.nt l j).toNat : Nat) : Int) = U.nt l j by omega]; exact hnk), nt_set _ _ _ _ hp, if_pos rfl]
        omega
      · exact k3 j (by omega) h2
    · rw [ed, List.mem_cons, not_or] at hx'
      rw [k4 x hx'.2, nt_set _ _ _ _ hp, if_neg (fun q : x = (U.nt l k).toNat => hx'.1 (by omega))]
section
variable (X : List (List AV)) (ks bs : List (List AV)) (p q : Int) (bl : List XB) (hc : CodeOk bl) (hl : bl.length ≤ 3000)
/-- What an edge asks for. -/
def EdgeIn (bl : List XB) (pl : List Int) (e : XE) : Prop := (0 ≤ e.src ∧ e.src < bl.length) ∧ (0 ≤ e.dst ∧ e.dst < bl.length) ∧
  (U.nt pl e.src.toNat ≠ 0 → U.nt pl e.dst.toNat ≤ U.nt pl e.src.toNat → on (U.withinB (U.nextAt bl) bl.length e.dst (-1)) e.src.toNat)
include hc hl in
theorem loop10_23 (i : Nat) (es : List XE) (he : es.length < 1000000) (pl : List Int) (hp : pl.length = bl.length) (hin : ∀ e ∈ es, EdgeIn bl pl e) : ∀ (d k : Nat) (rd bk : Bool), k + d = es.length → (bk = true → rd = true) →
    ∃ rd' bk' : Bool, LoopTo Try.prog H (H 10) 0 (loopOf Try.prog 10 23) (mkS 140 [(1, .pt 0 0 0), (3, goI i), (4, .pt 1 0 0), (7, .os 2 0 pl.length), (9, goB rd), (10, goB bk), (11, .sl (es.map encE)), (12, goI k)] [.box [.sl X], .box [.sl ks, .sl bs, goI p, goI q, .sl (bl.map encB)], .arr 1 (pl.map encI), .dead])
        (.exit 4, mkS 140 [(1, .pt 0 0 0), (3, goI i), (9, goB rd'), (10, goB bk')] [.box [.sl X], .box [.sl ks, .sl bs, goI p, goI q, .sl (bl.map encB)], .dead, .dead]) ∧ (bk' = true → rd' = true)
  | 0, k, rd, bk, hd, hrb => by
    have elen : (es.map encE).length = es.length := List.length_map _
    refine ⟨rd, bk, turnK (t10_23 X ks bs p q bl i k es pl rd bk _) ?_, hrb⟩
    rw [elen, decide_eq_false (by omega)]; exact rfl
  | d + 1, k, rd, bk, hd, hrb => by
    have elen : (es.map encE).length = es.length := List.length_map _
    have hk : k < es.length := by omega
    obtain ⟨⟨s0, s1⟩, ⟨d0, d1⟩, hedge⟩ := hin _ (edg_mem hk)
    have e1 : rdI (rowAt (es.map encE) k) 0 = (U.edg es k).src := by rw [rowE hk]; rfl
    have e2 : rdI (rowAt (es.map encE) k) 1 = (U.edg es k).dst := by rw [rowE hk]; rfl
    have hs : (U.edg es k).src.toNat < pl.length := by omega
    have hdl : (U.edg es k).dst.toNat < pl.length := by omega
    have r1 : rdI (rowAt (pl.map encI) (0 + (U.edg es k).src.toNat)) 0 = U.nt pl (U.edg es k).src.toNat := by rw [Nat.zero_add, rowI hs]; rfl
    have r2 : rdI (rowAt (pl.map encI) (0 + (U.edg es k).dst.toNat)) 0 = U.nt pl (U.edg es k).dst.toNat := by rw [Nat.zero_add, rowI hdl]; rfl
    have g1 : (pl.map encI)[0 + (U.edg es k).src.toNat]? = some [goI (U.nt pl (U.edg es k).src.toNat)] := by rw [Nat.zero_add, getI hs]
    have g2 : (pl.map encI)[0 + (U.edg es k).dst.toNat]? = some [goI (U.nt pl (U.edg es k).dst.toNat)] := by rw [Nat.zero_add, getI hdl]
    have hsin : 0 ≤ (U.edg es k).src ∧ (U.edg es k).src < (pl.length : Int) ∧ 0 + (U.edg es k).src.toNat < (pl.map encI).length := ⟨s0, by omega, by rw [List.length_map]; omega⟩
    have hdin : 0 ≤ (U.edg es k).dst ∧ (U.edg es k).dst < (pl.length : Int) ∧ 0 + (U.edg es k).dst.toNat < (pl.map encI).length := ⟨d0, by omega, by rw [List.length_map]; omega⟩
    by_cases hz : U.nt pl (U.edg es k).src.toNat = 0
    · obtain ⟨rd', bk', h1, h2⟩ := loop10_23 i es he pl hp hin d (k + 1) rd bk (by omega) hrb
      refine ⟨rd', bk', turnK (t10_23 X ks bs p q bl i k es pl rd bk _) ?_, h2⟩
      rw [elen, decide_eq_true (by omega), e1, e2, r1, g1, getE hk, hz, wrapS hk he]
      exact ⟨⟨by omega, rfl⟩, hsin, rfl, h1⟩
    · have hzb : (U.nt pl (U.edg es k).src.toNat == 0) = false := by simp [hz]
      have w42 := wf42 ks bs p q bl hc hl (U.edg es k).dst (-1) d0
      have hW := withinB_len (U.nextAt bl) bl.length (U.edg es k).dst (-1)
      have hed := hedge hz
      generalize hWe : U.withinB (U.nextAt bl) bl.length (U.edg es k).dst (-1) = W at *
      obtain ⟨b1, b2⟩ := rowBo (m := W) (show (U.edg es k).src.toNat < W.length by omega)
      rw [Nat.zero_add] at b1 b2
      unfold on at hed
      cases rd with
      | true =>
        cases bk with
        | true =>
          obtain ⟨rd', bk', h1, h2⟩ := loop10_23 i es he pl hp hin d (k + 1) true true (by omega) (fun _ => rfl)
          refine ⟨rd', bk', turnK (t10_23 X ks bs p q bl i k es pl true true _) ?_, h2⟩
          rw [elen, decide_eq_true (by omega), e1, e2, r1, g1, getE hk, hzb, wrapS hk he]
          exact ⟨⟨by omega, rfl⟩, hsin, rfl, h1⟩
        | false =>
          obtain ⟨rd', bk', h1, h2⟩ := loop10_23 i es he pl hp hin d (k + 1) true (decide (U.nt pl (U.edg es k).dst.toNat ≤ U.nt pl (U.edg es k).src.toNat)) (by omega) (fun _ => rfl)
          refine ⟨rd', bk', turnK (t10_23 X ks bs p q bl i k es pl true false _) ?_, h2⟩
          rw [elen, decide_eq_true (by omega), e1, e2, r1, r2, g1, g2, getE hk, hzb, wrapS hk he]
          exact ⟨⟨by omega, rfl⟩, hsin, rfl, hdin, rfl, hsin, rfl, h1⟩
      | false =>
        cases bk with
        | true => exact absurd (hrb rfl) (by simp)
        | false =>
          obtain ⟨rd', bk', h1, h2⟩ := loop10_23 i es he pl hp hin d (k + 1) (W.getD (U.edg es k).src.toNat default) (decide (U.nt pl (U.edg es k).dst.toNat ≤ U.nt pl (U.edg es k).src.toNat)) (by omega) (fun h => hed (by simpa using h))
          refine ⟨rd', bk', turnK (t10_23 X ks bs p q bl i k es pl false false _) ?_, h2⟩
          rw [elen, decide_eq_true (by omega), e1, e2, r1, r2, g1, g2, getE hk, hzb, wrapS hk he, withR_map, hWe, take_map, b1, b2]
          refine ⟨⟨by omega, rfl⟩, hsin, rfl, ?_, ⟨s0, rfl⟩, hdin, rfl, hsin, rfl, h1⟩
          rw [hW]
          exact w42
end
theorem nt_mem {l : List Int} {j : Nat} (h : j < l.length) : U.nt l j ∈ l := getD_mem h
/-- The order of a walk, and its places. -/
theorem order_edge {bl : List XB} (hT : TgtOk bl) (h0 : 0 < bl.length) {pl : List Int} (hp : pl.length = bl.length)
    (h1 : ∀ j, j < (U.left (U.nextAt bl) bl.length).reverse.length → U.nt pl (U.nt (U.left (U.nextAt bl) bl.length).reverse j).toNat = j + 1)
    (h2 : ∀ x : Nat, (x : Int) ∉ (U.left (U.nextAt bl) bl.length).reverse → U.nt pl x = 0) (e : XE) (he : e ∈ U.edges bl) : EdgeIn bl pl e := by
  have hnx := hnx_of hT
  have hL := left_ok hnx h0
  obtain ⟨u, hu, hsu, hd⟩ := (mem_edges bl e).1 he
  have hdr := hnx u (by omega) (by omega) e.dst hd
  refine ⟨by omega, hdr, fun hz hle => ?_⟩
  generalize ho : (U.left (U.nextAt bl) bl.length).reverse = o at *
  have hmo : ∀ x, x ∈ o ↔ x ∈ U.left (U.nextAt bl) bl.length := fun x => by rw [← ho, List.mem_reverse]
  have hsm : e.src ∈ o := Decidable.byContradiction fun q => hz (h2 e.src.toNat (by rw [show ((e.src.toNat : Nat) : Int) = e.src by omega]; exact q))
  have hws : Way (U.nextAt bl) bl.length 0 u := (hL.mem u).1 ((hmo _).1 (hsu ▸ hsm))
  have hwd : Way (U.nextAt bl) bl.length 0 e.dst.toNat := .step u e.dst hws hu hd hdr.1 hdr.2 (by omega)
  have hdm : e.dst ∈ o := (hmo _).2 (by have := (hL.mem e.dst.toNat).2 hwd; rwa [show ((e.dst.toNat : Nat) : Int) = e.dst by omega] at this)
  obtain ⟨js, hjs, es⟩ := mem_getD hsm
  obtain ⟨jd, hjd, edd⟩ := mem_getD hdm
  have ps := h1 js hjs
  have pd := h1 jd hjd
  have es' : U.nt o js = e.src := es
  have ed' : U.nt o jd = e.dst := edd
  rw [es'] at ps
  rw [ed'] at pd
  have hsplit : U.left (U.nextAt bl) bl.length = (o.drop (js + 1)).reverse ++ e.src :: (o.take js).reverse := by
    have e1 : o = o.take js ++ e.src :: o.drop (js + 1) := by
      have := drop_cons' o hjs
      rw [show o.getD js default = e.src from es] at this
      rw [← this, List.take_append_drop]
    have e2 : U.left (U.nextAt bl) bl.length = o.reverse := by rw [← ho, List.reverse_reverse]
    rw [e2]
    conv => lhs; rw [e1]
    rw [List.reverse_append, List.reverse_cons]; simp
  have hs' : e.src = (u : Int) := hsu
  rcases hL.good _ _ _ hsplit e.dst (by rw [hs']; exact hd) with hin | hw
  · exfalso
    rw [List.mem_reverse] at hin
    obtain ⟨j, hj, ej⟩ := mem_getD hin
    rw [List.length_drop] at hj
    have ej2 : U.nt o (js + 1 + j) = e.dst := by
      rw [← ej]
      unfold U.nt
      rw [List.getD_eq_getElem?_getD, List.getD_eq_getElem?_getD, List.getElem?_drop]
      rfl
    have pj := h1 (js + 1 + j) (by omega)
    rw [ej2] at pj
    omega
  · exact (withinB_on _ _ _ _ _).2 ⟨by omega, hdr.1, hdr.2, by omega, hw⟩
theorem rep_mapI (n : Nat) : List.replicate n [goI 0] = (List.replicate n (0 : Int)).map encI := by rw [List.map_replicate]; rfl
theorem loop10_6 (a : List XF) (ha : a.length ≤ 3000) (hs : ∀ f ∈ a, SmallF f) (hok : U.okProg a = true) : ∀ (d i : Nat), i + d = a.length →
    LoopTo Try.prog H (H 10) 0 (loopOf Try.prog 10 6) (mkS 140 [(1, .pt 0 0 0), (3, goI i)] [.box [.sl (a.map encF)], .dead, .dead, .dead]) (.exit 0, mkS 140 [] [.dead, .dead, .dead, .dead])
  | 0, i, hd => by
    refine turnK (t10_6 a i [] false false _) ?_
    rw [List.length_map, decide_eq_false (by omega)]
    exact rfl
  | d + 1, i, hd => by
    have hi : i < a.length := by omega
    have ih := loop10_6 a ha hs hok d (i + 1) (by omega)
    have hf := hs _ (fun_mem hi)
    have hc := codeOk_of hf
    have hl : (U.fun_ a i).blocks.length ≤ 3000 := hf.2.2.1
    have h0 : 0 < (U.fun_ a i).blocks.length := (funcOk_of (okFunc_at hok (fun_mem hi))).blocks.1
    have hT := tgtOk_of hok hi
    have hL := left_ok (hnx_of hT) h0
    have hll := left_len (nx := U.nextAt (U.fun_ a i).blocks) (U.fun_ a i).blocks.length
    have w38 := wf38 ((U.fun_ a i).kinds.map encI) ((U.fun_ a i).base.map encI) (U.fun_ a i).params (U.fun_ a i).result (U.fun_ a i).blocks hc hl h0
    have w40 := wf40 ((U.fun_ a i).kinds.map encI) ((U.fun_ a i).base.map encI) (U.fun_ a i).params (U.fun_ a i).result (U.fun_ a i).blocks hc hl h0
    have w20 := wf20 ((U.fun_ a i).kinds.map encI) ((U.fun_ a i).base.map encI) (U.fun_ a i).params (U.fun_ a i).result (U.fun_ a i).blocks hc hl
    have hel : (U.edges (U.fun_ a i).blocks).length < 1000000 := by have := edges_len (U.fun_ a i).blocks (U.fun_ a i).blocks.length 0; unfold U.edges; omega
    have hein := fun (pl : List Int) => order_edge (bl := (U.fun_ a i).blocks) hT h0 (pl := pl)
    have hfirst : ∃ r, (U.left (U.nextAt (U.fun_ a i).blocks) (U.fun_ a i).blocks.length).reverse = 0 :: r := by
      obtain ⟨e, he⟩ := hL.last
      exact ⟨e.reverse, by rw [he]; simp⟩
    have hnd : (U.left (U.nextAt (U.fun_ a i).blocks) (U.fun_ a i).blocks.length).reverse.Nodup := (List.reverse_perm _).nodup_iff.2 hL.nd
    have hran : ∀ x ∈ (U.left (U.nextAt (U.fun_ a i).blocks) (U.fun_ a i).blocks.length).reverse, 0 ≤ x ∧ x < (U.fun_ a i).blocks.length := fun x hx => hL.ran x (List.mem_reverse.1 hx)
    have hlr : (U.left (U.nextAt (U.fun_ a i).blocks) (U.fun_ a i).blocks.length).reverse.length ≤ (U.fun_ a i).blocks.length := by rw [List.length_reverse]; exact hll
    generalize ho : (U.left (U.nextAt (U.fun_ a i).blocks) (U.fun_ a i).blocks.length).reverse = o at *
    obtain ⟨pl, k1, k2, k3, k4⟩ := loop10_14 (a.map encF) (encF (U.fun_ a i)) i o (by omega) hnd o.length 0 (List.replicate (U.fun_ a i).blocks.length 0) (by omega) (fun x hx => by
      rw [List.drop_zero] at hx
      have := hran x hx
      refine ⟨this.1, by rw [List.length_replicate]; exact this.2, ?_⟩
      unfold U.nt
      rw [List.getD_eq_getElem?_getD, List.getElem?_replicate, if_pos (by omega)]; rfl)
    rw [List.drop_zero] at k4
    rw [List.length_replicate] at k2
    obtain ⟨rd, bk, q1, q2⟩ := loop10_23 (a.map encF) ((U.fun_ a i).kinds.map encI) ((U.fun_ a i).base.map encI) (U.fun_ a i).params (U.fun_ a i).result (U.fun_ a i).blocks hc hl i (U.edges (U.fun_ a i).blocks) hel pl k2 (fun e he => hein pl k2 (fun j hj => k3 j (Nat.zero_le _) hj) (fun x hx => by
      rw [k4 x hx]
      unfold U.nt
      rw [List.getD_eq_getElem?_getD, List.getElem?_replicate]
      split <;> rfl) e he) (U.edges (U.fun_ a i).blocks).length 0 false false (by omega) (fun h => by cases h)
    obtain ⟨r, hr⟩ := hfirst
    have e5 : (((o.map encI).length : Nat) : Int) = o.length := by rw [List.length_map]
    have e6 : ((((U.isort o).map encI).length : Nat) : Int) = o.length := by rw [List.length_map, isort_len]
    have e7 : (((o.length : Nat) : Int) == 0) = false := by
      rw [hr, List.length_cons]
      simp only [beq_eq_false_iff_ne, ne_eq]
      omega
    have e8 : rdI (rowAt (o.map encI) 0) 0 = 0 := by rw [hr]; rfl
    have e9 : (o.map encI)[0]? = some [goI 0] := by rw [hr]; rfl
    have f0 : rdL (encF (U.fun_ a i)) 0 = (U.fun_ a i).kinds.map encI := rfl
    have f1 : rdL (encF (U.fun_ a i)) 1 = (U.fun_ a i).base.map encI := rfl
    have f2 : rdI (encF (U.fun_ a i)) 2 = (U.fun_ a i).params := rfl
    have f3 : rdI (encF (U.fun_ a i)) 3 = (U.fun_ a i).result := rfl
    have f4 : rdL (encF (U.fun_ a i)) 4 = (U.fun_ a i).blocks.map encB := rfl
    refine turnK (t10_6 a i pl rd bk _) ?_
    rw [List.length_map, decide_eq_true (show (i : Int) < a.length by omega), wrapS hi (by omega), rowF hi, getF hi]
    simp only [f0, f1, f2, f3, f4, reachL_map, leftR_map, edgesR_map, ho, take_map, rep_mapI]
    rw [e5, e6, e7, show (!((o.length : Int) == (o.length : Int))) = false by simp, e8, e9, show (!((0 : Int) == 0)) = false from rfl]
    rw [List.length_map, List.length_map]
    refine ⟨⟨by omega, rfl⟩, w40, w38, ⟨by decide, rfl⟩, ⟨by omega, by omega, by omega⟩, k1, w20, q1, ?_⟩
    cases bk with
    | false => exact ih
    | true =>
      rw [q2 rfl]
      exact ih
theorem wf10 (p : XP) (hp : HandP p) : Wf Try.prog H 10 [.agg (encP p)] [] = some (goB true, [], []) := by
  refine runK (t10 p.funcs (U.out p) _) ⟨wf12, wf13 p hp, ?_⟩
  cases ho : U.out p with
  | true => exact rfl
  | false =>
    unfold U.out at ho
    rw [Bool.or_eq_false_iff] at ho
    obtain ⟨h1, h2⟩ := small_of ho.1
    have hok : U.okProg p.funcs = true := by simpa using ho.2
    exact ⟨loop10_6 p.funcs h1 h2 hok p.funcs.length 0 (by omega), rfl⟩
end Go.Proofs.Ytjgnnjoejlijjaa.E
