/- slices.Collect of slices.Values of integers, as a known function. -/
import Derived.Test.YtabdcfcnngnnoaaDoorV1
set_option linter.unusedVariables false
set_option linter.unusedSimpArgs false
namespace Go.Proofs.YtabdcfcnngnnoaaDoor.E
open Go Go.RowKit Go.Shelf Go.Proofs
attribute [local go_sem] Oper.semAt_some
set_option maxRecDepth 100000 in
set_option maxHeartbeats 2000000 in
theorem collect_in (F : Fence) (n : Nat) (hC : F.fn 97) (hA : F.fn 108) (hF : F.fn 98) (hro : F.round = none) (hn : 4 ≤ n) (B : Addr) (sv : Value) (zs : List Int) (hreach : zs.length < 1000000) (w : World) (hBs : B.block < w.heap.size)
    (hc : w.cell? B = some sv) (hI : IntsAt w.heap.size w sv zs) :
    CallsIn F n Tryd.prog 97 #[.func (.func 98) #[] #[.pointer (some B)]] w fun e w' => ∃ v, e = .returned v ∧ w'.ownsRow w.heap.size 3 1 v zs.length (zs.map (Value.int .i64)) ∧ Below w.heap.size w w' := by
  have h1 : 1 ≤ n := by omega
  refine callsIn_of_wp Tryd.func97 rfl hC ?_ hro
  simp only [Tryd.ntmps97, List.size_toArray, List.length_cons, List.length_nil, Nat.reduceAdd, Nat.reduceSub, Array.replicate_succ, Array.replicate_zero, List.push_toArray, List.append_toArray, List.nil_append, List.cons_append]
  gi_wp2_with (gi_at_call 108; refine (appendSeq_in F (n - 1) hA hF hro (by omega) B sv zs hreach _ hBs hc hI).mono ?_; rintro e w' ⟨v, rfl, hrow, hb⟩)
  go_ret
  exact ⟨v, rfl, hrow, hb⟩
/-- What slices.Collect comes to, of slices.Values of a list. -/
def collectP (args : List AV) (sto : List Row) : Option (AV × List Row × List Nat) :=
  match args, sto with
  | [.clo f [.rp [.sl xs]]], [] => if f = 98 ∧ xs.length < 1000000 then (intL xs).map fun l => (.os 0 0 xs.length, [.arr 1 xs], []) else none
  | _, _ => none
theorem nt_get (l : List Int) (j : Nat) (h : j < l.length) : U.nt l j = l[j] := by
  unfold U.nt; rw [List.getD_eq_getElem?_getD, List.getElem?_eq_getElem h]; rfl
theorem collect_calls (args : List AV) (sto : List Row) (r : AV) (s1 : List Row) (mv : List Nat) (h : collectP args sto = some (r, s1, mv)) (ρ : Gh) (w : World) (vs : Array Value) (hS : StoOk ρ w sto) (hv : RVs ρ w args vs.toList) :
    Calls Tryd.prog 97 vs w fun e w' => ∃ v ρ', e = .returned v ∧ RV ρ' w' r v ∧ StoOk ρ' w' s1 ∧ Ext ρ w ρ' w' (mv ++ List.range' sto.length (s1.length - sto.length)) := by
  unfold collectP at h
  split at h
  · rename_i f xs
    split at h
    · rename_i hf
      obtain ⟨hf, hlen⟩ := hf
      obtain ⟨l, hl, e⟩ := Option.map_eq_some_iff.1 h
      cases e
      subst hf
      have hxs := intL_eq xs l hl
      subst hxs
      rw [List.length_map] at hlen
      obtain ⟨y, rs, hvs, h1, h2⟩ := hv.head
      have hrs : rs = [] := List.eq_nil_of_length_eq_zero (by rw [← h2.1]; rfl)
      subst hrs
      generalize hcaps : [AV.rp [AV.sl (l.map encI)]] = caps at h1
      cases h1 with
      | clo f _ cs hcl hcs =>
        subst hcaps
        obtain ⟨p, hp⟩ : ∃ p, cs = #[p] := by
          have h5 : cs.toList.length = 1 := by simpa using hcl.symm
          obtain ⟨p, hp⟩ := List.length_eq_one_iff.1 h5
          exact ⟨p, by cases cs; simp_all⟩
        subst hp
        have h3 := hcs 0 _ p rfl rfl
        generalize hcells : [AV.sl (l.map encI)] = cells at h3
        cases h3 with
        | rp _ B Uc hcell hsub =>
          subst hcells
          obtain ⟨hB1, hB2⟩ := hcell 0 _ rfl
          have hB3 : B.add 0 = B := by cases B; unfold Addr.add; split <;> simp_all
          rw [hB3] at hB2
          have h4 := hsub 0 _ rfl
          have hI : IntsAt w.heap.size w (Uc 0) l := by
            generalize hU : Uc 0 = u at h4
            generalize hm : l.map encI = m at h4
            cases h4 with
            | sl _ a c sz V hc ha hrow hcl2 hsub2 =>
              subst hm
              rw [List.length_map]
              refine ⟨a, c, rfl, fun hz => ?_⟩
              rw [List.length_map] at ha
              obtain ⟨b, rfl⟩ := Option.isSome_iff_exists.1 (ha hz)
              have hsz : 1 = sz := hrow 0 [goI l[0]] (by rw [List.getElem?_map, List.getElem?_eq_getElem hz]; rfl)
              subst hsz
              have key : ∀ j, j < l.length → ¬ owns ρ b.block ∧ w.cell? (b.add j) = some (.int .i64 (U.nt l j)) := fun j hj => by
                have e1 : (l.map encI)[j]? = some [goI l[j]] := by rw [List.getElem?_map, List.getElem?_eq_getElem hj]; rfl
                obtain ⟨_, ad, had, hno, hcl3⟩ := hcl2 j _ 0 _ e1 rfl
                cases had
                have h5 := hsub2 j _ 0 _ e1 rfl
                generalize V j 0 = vv at h5 hcl3
                cases h5
                rw [Nat.mul_one, Nat.add_zero] at hcl3
                exact ⟨hno, by rw [hcl3, nt_get l j hj]⟩
              refine ⟨b, rfl, ?_, fun j hj => (key j hj).2⟩
              have := lt_of_cell (key 0 hz).2
              rwa [add_block] at this
          have hvs' : vs = #[.func (.func 98) #[] #[.pointer (some B)]] := by cases vs; simp_all
          rw [hvs']
          refine (callsIn_wide.1 (collect_in Fence.wide 4 trivial trivial trivial rfl (Nat.le_refl _) B (Uc 0) l hlen w (lt_of_cell hB2) hB2 hI)).mono ?_
          rintro e w' ⟨v, rfl, hrow, hb⟩
          have hnone : ∀ t, ρ t = none := fun t => by
            cases hρ : ρ t with
            | none => rfl
            | some k => have := hS.len t k hρ; simp at this
          have hnob : ∀ b, ¬ own ρ b := fun b ⟨t, k, ht, _⟩ => by rw [hnone t] at ht; cases ht
          rw [List.length_map]
          rcases hrow.2 with ⟨rfl, h0⟩ | ⟨g, cap, cur, rfl, hg, hgb, hr1, hr2, hr3, hr4⟩
          · have hl0 : l = [] := List.eq_nil_of_length_eq_zero h0
            subst hl0
            have hx : Ext ρ w ρ w' (List.range' 0 1) := ⟨hb.os, hb.tape, hb.output, hb.size, fun b hbl _ => hb.block b hbl, fun b ho => absurd ho (hnob b), rfl, fun _ _ => rfl⟩
            refine ⟨_, ρ, rfl, .osn 0 none (hnone 0), ⟨fun t k ht => absurd ht (by rw [hnone t]; simp), fun t t' k k' ht => absurd ht (by rw [hnone t]; simp), fun t k ht => absurd ht (by rw [hnone t]; simp), fun t k ht => absurd ht (by rw [hnone t]; simp), fun b hb' => Nat.lt_of_lt_of_le (hS.old b hb') hb.size, fun t r hr => ?_, hS.tab.ext hx⟩, hx⟩
            have ht0 : t = 0 := by
              cases t with
              | zero => rfl
              | succ t => simp at hr
            subst ht0
            rw [hnone 0]
            cases hr
            rfl
          · have hx : Ext ρ w ⟨fun t => if t = 0 then some ⟨g, 0, 1, l.length, cap⟩ else none, ρ.X⟩ w' (List.range' 0 1) := by
              refine ⟨hb.os, hb.tape, hb.output, hb.size, fun b hbl _ => hb.block b hbl, fun b ho => ?_, rfl, fun t ht => ?_⟩
              · obtain ⟨t, k, ht, rfl⟩ := ho
                right
                have : (if t = 0 then some (⟨g, 0, 1, l.length, cap⟩ : Blk) else none) = some k := ht
                split at this
                · cases this; exact hg
                · cases this
              · have ht0 : t ≠ 0 := fun e => ht (by subst e; simp [List.range'])
                show (if t = 0 then _ else none) = _
                rw [if_neg ht0, hnone t]
            refine ⟨_, ⟨fun t => if t = 0 then some ⟨g, 0, 1, l.length, cap⟩ else none, ρ.X⟩, rfl, ?_, ?_, hx⟩
            · have := RV.os (ρ := ⟨fun t => if t = 0 then some ⟨g, 0, 1, l.length, cap⟩ else none, ρ.X⟩) (w := w') 0 0 l.length ⟨g, 0, 1, l.length, cap⟩ (some ⟨g, 0, none⟩) rfl (by simp) hr1 (fun _ => by simp)
              simpa using this
            · have hg' : g < w'.heap.size := (Array.getElem?_eq_some_iff.1 hgb).1
              have only : ∀ {t k}, (if t = 0 then some (⟨g, 0, 1, l.length, cap⟩ : Blk) else none) = some k → t = 0 ∧ k = ⟨g, 0, 1, l.length, cap⟩ := fun {t k} ht => by
                split at ht
                · cases ht; exact ⟨by assumption, rfl⟩
                · cases ht
              refine ⟨fun t k ht => ?_, fun t t' k k' ht ht' _ => ?_, fun t k ht => ?_, fun t k ht => ?_, fun b hb' => Nat.lt_of_lt_of_le (hS.old b hb') hb.size, fun t r hr => ?_, hS.tab.ext hx⟩
              · rw [(only ht).1]; simp
              · rw [(only ht).1, (only ht').1]
              · rw [(only ht).2]; exact hg'
              · rw [(only ht).2]; intro hX
                have := hS.old g hX
                omega
              · have ht0 : t = 0 := by
                  cases t with
                  | zero => rfl
                  | succ t => simp at hr
                subst ht0
                cases hr
                refine ⟨rfl, (List.length_map _).symm, hr1, cur, 3, hgb, by simp [hr3], fun i row hi => ?_⟩
                rw [List.getElem?_map] at hi
                obtain ⟨x, hx1, rfl⟩ := Option.map_eq_some_iff.1 hi
                obtain ⟨hil, hxe⟩ := List.getElem?_eq_some_iff.1 hx1
                refine ⟨rfl, fun j z hj => ?_⟩
                cases j with
                | succ j => simp [encI] at hj
                | zero =>
                  have hz : z = goI x := by simpa [encI] using hj.symm
                  subst hz
                  refine ⟨rfl, .int .i64 x, ?_, .v _⟩
                  have h6 : (cur.toList.take (l.length * 1))[i]? = some (.int .i64 x) := by
                    rw [hr4, List.getElem?_map, hx1]; rfl
                  rw [List.getElem?_take] at h6
                  split at h6
                  · simpa using h6
                  · cases h6
    · cases h
  · cases h
end Go.Proofs.YtabdcfcnngnnoaaDoor.E
