/- What is split has no critical edge. In plain Lean. -/
import Derived.Test.Ytjgnnjoejlijjaa13c
set_option linter.unusedVariables false
set_option linter.unusedSimpArgs false
namespace Go.Proofs.Ytjgnnjoejlijjaa.E
open Go
namespace U
def lastI (bl : List XB) (u : Nat) : XI := ins (blk bl u).code ((blk bl u).code.length - 1)
end U
theorem nextAt_last {bl : List XB} (hn : CodeNe bl) {u : Nat} (hu : u < bl.length) : U.nextAt bl u = U.next (U.lastI bl u) := by
  have := hn _ (blk_mem hu)
  unfold U.nextAt U.lastI
  rw [if_neg (by omega), Int.toNat_natCast, if_neg (by omega)]
theorem mem_next {x : XI} {t : Int} : t ∈ U.next x ↔ (x.op = 21 ∧ t = x.n) ∨ (x.op = 22 ∧ (t = x.n ∨ t = x.m)) := by
  unfold U.next
  by_cases h1 : x.op = 21
  · rw [if_pos h1]; simp [h1]
  rw [if_neg h1]
  by_cases h2 : x.op = 22
  · rw [if_pos h2]
    by_cases h3 : x.n = x.m
    · rw [if_pos h3]; simp [h2, h3]
    · rw [if_neg h3]
      split <;> simp [h2] <;> exact or_comm
  · rw [if_neg h2]; simp [h1, h2]
theorem next_two {x : XI} : ¬ ((U.next x).length : Int) < 2 ↔ x.op = 22 ∧ x.n ≠ x.m := by
  unfold U.next
  by_cases h1 : x.op = 21
  · rw [if_pos h1]; simp [h1]
  rw [if_neg h1]
  by_cases h2 : x.op = 22
  · rw [if_pos h2]
    by_cases h3 : x.n = x.m
    · rw [if_pos h3]; simp [h3]
    · rw [if_neg h3]
      split <;> simp [h2, h3]
  · rw [if_neg h2]; simp [h2]
theorem next_nodup (x : XI) : (U.next x).Nodup := by
  unfold U.next
  by_cases h1 : x.op = 21
  · rw [if_pos h1]; simp
  rw [if_neg h1]
  by_cases h2 : x.op = 22
  · rw [if_pos h2]
    by_cases h3 : x.n = x.m
    · rw [if_pos h3]; simp
    · rw [if_neg h3]
      split
      · simp; exact fun h => h3 h.symm
      · simp; exact h3
  · rw [if_neg h2]; simp
theorem nextAt_nodup {bl : List XB} (hn : CodeNe bl) {u : Nat} (hu : u < bl.length) : (U.nextAt bl u).Nodup := by
  rw [nextAt_last hn hu]; exact next_nodup _
theorem edgesFrom_nodup {bl : List XB} (hn : CodeNe bl) : ∀ d i, i + d = bl.length → (U.edgesFrom bl d i).Nodup
  | 0, i, _ => List.nodup_nil
  | d + 1, i, h => by
    show (U.edgeTo i (U.nextAt bl i) ++ U.edgesFrom bl d (i + 1)).Nodup
    rw [List.nodup_append]
    refine ⟨?_, edgesFrom_nodup hn d (i + 1) (by omega), fun a ha b hb e => ?_⟩
    · unfold U.edgeTo
      exact List.Pairwise.map _ (fun a b hab h => hab (by injection h)) (nextAt_nodup hn (u := i) (by omega))
    · subst e
      unfold U.edgeTo at ha
      obtain ⟨t, _, rfl⟩ := List.mem_map.1 ha
      obtain ⟨j, h1, _, h2, _⟩ := (mem_edgesFrom bl _ d (i + 1)).1 hb
      have h2' : (i : Int) = j := h2
      omega
theorem edges_nodup {bl : List XB} (hn : CodeNe bl) : (U.edges bl).Nodup := edgesFrom_nodup hn bl.length 0 (by omega)
/-- What is tallied is how many edges lead there. -/
theorem tally_nt : ∀ (l : List XE) (c : List Int) (d : Nat), d < c.length → (∀ e ∈ l, 0 ≤ e.dst ∧ e.dst < c.length) → U.nt (U.tally l c) d = U.nt c d + ((l.filter fun e => decide (e.dst = (d : Int))).length : Int)
  | [], c, d, _, _ => by simp [U.tally]
  | e :: r, c, d, hd, h => by
    obtain ⟨g1, g2⟩ := h e (by simp)
    have ih := tally_nt r (c.set e.dst.toNat (U.nt c e.dst.toNat + 1)) d (by rw [List.length_set]; exact hd) (fun e' he' => by rw [List.length_set]; exact h e' (by simp [he']))
    have e1 : U.nt (c.set e.dst.toNat (U.nt c e.dst.toNat + 1)) d = if d = e.dst.toNat then U.nt c e.dst.toNat + 1 else U.nt c d := getD_set c _ d _ (by omega)
    rw [e1] at ih
    show U.nt (U.tally r _) d = _
    rw [ih, List.filter_cons]
    by_cases hq : e.dst = d
    · have : d = e.dst.toNat := by omega
      rw [if_pos this, if_pos (by simpa using hq), List.length_cons, ← this]
      omega
    · rw [if_neg (by omega), if_neg (by simpa using hq)]
theorem nt_zero (n d : Nat) : U.nt (List.replicate n (0 : Int)) d = 0 := by
  unfold U.nt
  rw [List.getD_eq_getElem?_getD, List.getElem?_replicate]
  split <;> rfl
def U.into (bl : List XB) (d : Nat) : List XE := (U.edges bl).filter fun e => decide (e.dst = (d : Int))
theorem cnt_into {bl : List XB} (hT : TgtOk bl) {d : Nat} (hd : d < bl.length) : U.nt (U.tally (U.edges bl) (List.replicate bl.length 0)) d = (U.into bl d).length := by
  rw [tally_nt _ _ d (by rw [List.length_replicate]; exact hd) (fun e he => by
    rw [List.length_replicate]
    obtain ⟨_, _, h3, h4⟩ := edge_in hT he
    exact ⟨by omega, h4⟩), nt_zero, Int.zero_add]
  rfl
theorem mem_crit {bl : List XB} (hn : CodeNe bl) (hT : TgtOk bl) {e : XE} : e ∈ U.crit bl ↔ e ∈ U.edges bl ∧ ¬ ((U.into bl e.dst.toNat).length : Int) < 2 ∧ ¬ ((U.nextAt bl e.src).length : Int) < 2 := by
  unfold U.crit
  rw [List.mem_filter]
  constructor
  · rintro ⟨h1, h2⟩
    obtain ⟨_, _, h3, h4⟩ := edge_in hT h1
    unfold U.cut at h2
    rw [cnt_into hT (by omega)] at h2
    simp only [Bool.not_eq_true', Bool.or_eq_false_iff, decide_eq_false_iff_not] at h2
    exact ⟨h1, h2⟩
  · rintro ⟨h1, h2⟩
    obtain ⟨_, _, h3, h4⟩ := edge_in hT h1
    refine ⟨h1, ?_⟩
    unfold U.cut
    rw [cnt_into hT (by omega)]
    simp only [Bool.not_eq_true', Bool.or_eq_false_iff, decide_eq_false_iff_not]
    exact h2
/-- All that lead there are the same one: there is at most one. -/
theorem into_le_one {bl : List XB} (hn : CodeNe bl) {d : Nat} {e0 : XE} (h : ∀ e ∈ U.edges bl, e.dst = d → e = e0) : (U.into bl d).length ≤ 1 := by
  have hnd : (U.into bl d).Nodup := (edges_nodup hn).filter _
  have hs : ∀ x ∈ U.into bl d, x ∈ [e0] := fun x hx => by
    obtain ⟨h1, h2⟩ := List.mem_filter.1 hx
    simpa using h x h1 (by simpa using h2)
  exact len_of_cover hnd hs
theorem one_of_le {bl : List XB} {d : Nat} (hl : (U.into bl d).length ≤ 1) {e e' : XE} (he : e ∈ U.edges bl) (he' : e' ∈ U.edges bl) (h : e.dst = d) (h' : e'.dst = d) : e = e' := by
  have m1 : e ∈ U.into bl d := List.mem_filter.2 ⟨he, by simpa using h⟩
  have m2 : e' ∈ U.into bl d := List.mem_filter.2 ⟨he', by simpa using h'⟩
  match hq : U.into bl d, hl with
  | [], _ => rw [hq] at m1; cases m1
  | [a], _ =>
    rw [hq] at m1 m2
    rw [List.mem_singleton.1 m1, List.mem_singleton.1 m2]
/-- How a block's last instruction stands once the first j edges are split. -/
def Led (K : List XE) (N j : Nat) (u : Nat) (x y : XI) : Prop :=
  y.op = x.op ∧ ((y.n = x.n ∧ ∀ i, i < j → U.edg K i ≠ ⟨u, x.n⟩) ∨ ∃ i, i < j ∧ U.edg K i = ⟨u, x.n⟩ ∧ y.n = ((N + i : Nat) : Int)) ∧ ((y.m = x.m ∧ ∀ i, i < j → U.edg K i ≠ ⟨u, x.m⟩) ∨ ∃ i, i < j ∧ U.edg K i = ⟨u, x.m⟩ ∧ y.m = ((N + i : Nat) : Int))
theorem blk_old (bl : List XB) (e : XE) {i : Nat} (hi : i < bl.length) : U.blk (U.splitStep bl e) i = if e.src.toNat = i then ⟨U.lead (U.blk bl i).code e.dst bl.length⟩ else U.blk bl i := by
  unfold U.splitStep U.blk
  rw [List.getD_eq_getElem?_getD, List.getElem?_append_left (by rw [List.length_set]; exact hi), List.getElem?_set]
  by_cases h : e.src.toNat = i
  · rw [if_pos h, if_pos h, if_pos (by omega), h]; rfl
  · rw [if_neg h, if_neg h]
    exact (List.getD_eq_getElem?_getD ..).symm
theorem last_lead (c : List XI) (u v : Int) (hc : 1 ≤ c.length) : U.ins (U.lead c u v) ((U.lead c u v).length - 1) = (if (U.ins c (c.length - 1)).n = u then { U.ins c (c.length - 1) with n := v } else { U.ins c (c.length - 1) with m := v }) := by
  rw [lead_len]
  unfold U.lead
  have : ∀ (z : XI), U.ins (c.set (c.length - 1) z) (c.length - 1) = z := fun z => by
    have h : (c.set (c.length - 1) z).getD (c.length - 1) default = if c.length - 1 = c.length - 1 then z else c.getD (c.length - 1) default := getD_set c _ _ z (by omega)
    rw [if_pos rfl] at h
    exact h
  exact this _
section
variable {bl : List XB} (hn : CodeNe bl) (hT : TgtOk bl)
include hn hT
/-- The edges, and the blocks ahead of the split. -/
theorem led_step {g : List XB} {j : Nat} (hj : j < (U.crit bl).length) (hg : CodeNe g) (hgl : g.length = bl.length + j) (h : ∀ u, u < bl.length → Led (U.crit bl) bl.length j u (U.lastI bl u) (U.lastI g u)) :
    ∀ u, u < bl.length → Led (U.crit bl) bl.length (j + 1) u (U.lastI bl u) (U.lastI (U.splitStep g (U.edg (U.crit bl) j)) u) := by
  intro u hu
  have hK := edg_mem hj
  obtain ⟨k1, k2, k3⟩ := (mem_crit hn hT).1 hK
  obtain ⟨g1, g2, g3, g4⟩ := edge_in hT k1
  have hnd : (U.crit bl).Nodup := (edges_nodup hn).filter _
  have huniq : ∀ i, i < j → U.edg (U.crit bl) i ≠ U.edg (U.crit bl) j := fun i hi e => by
    have hi' : i < (U.crit bl).length := by omega
    unfold U.edg at e
    rw [List.getD_eq_getElem?_getD, List.getD_eq_getElem?_getD, List.getElem?_eq_getElem hi', List.getElem?_eq_getElem hj] at e
    simp only [Option.getD_some] at e
    have := (List.getElem_inj hnd).1 e
    omega
  have hs : (U.edg (U.crit bl) j).src = (((U.edg (U.crit bl) j).src.toNat : Nat) : Int) := by omega
  obtain ⟨l1, l2, l3⟩ := h u hu
  have hub : u < g.length := by omega
  by_cases hsu : (U.edg (U.crit bl) j).src.toNat = u
  · -- its last instruction is led elsewhere
    have hgc := hg _ (blk_mem hub)
    have elast : U.lastI (U.splitStep g (U.edg (U.crit bl) j)) u = (if (U.lastI g u).n = (U.edg (U.crit bl) j).dst then { U.lastI g u with n := g.length } else { U.lastI g u with m := g.length }) := by
      have e1 := blk_old g (U.edg (U.crit bl) j) hub
      rw [if_pos hsu] at e1
      unfold U.lastI
      rw [e1]
      exact last_lead _ _ _ hgc.1
    have hsu' : (U.edg (U.crit bl) j).src = u := by omega
    rw [hsu', nextAt_last hn hu, next_two] at k3
    obtain ⟨p1, p2⟩ := k3
    have hd : (U.edg (U.crit bl) j).dst = (U.lastI bl u).n ∨ (U.edg (U.crit bl) j).dst = (U.lastI bl u).m := by
      obtain ⟨v, hv, hv2, hv3⟩ := (mem_edges bl _).1 k1
      have : v = u := by omega
      subst this
      rw [nextAt_last hn hv, mem_next] at hv3
      rcases hv3 with ⟨q, _⟩ | ⟨_, q⟩
      · omega
      · exact q
    have ej : ∀ t, (U.edg (U.crit bl) j).dst = t → U.edg (U.crit bl) j = ⟨u, t⟩ := fun t ht => by
      cases hq : U.edg (U.crit bl) j with
      | mk s d => rw [hq] at ht hsu'; simp at ht hsu'; rw [ht, hsu']
    have ej2 : ∀ t, (U.edg (U.crit bl) j).dst ≠ t → U.edg (U.crit bl) j ≠ ⟨u, t⟩ := fun t ht e => ht (by rw [e])
    rw [elast]
    have hold : ∀ t, (U.edg (U.crit bl) j).dst = t → ¬ ∃ i, i < j ∧ U.edg (U.crit bl) i = ⟨u, t⟩ := fun t ht ⟨i, hi, e⟩ => huniq i hi (e.trans (ej t ht).symm)
    rcases hd with hd | hd
    · -- n
      have hy : (U.lastI g u).n = (U.lastI bl u).n := by
        rcases l2 with ⟨q, _⟩ | ⟨i, hi, e, _⟩
        · exact q
        · exact absurd ⟨i, hi, e⟩ (hold _ hd)
      rw [if_pos (by rw [hy, hd])]
      refine ⟨l1, .inr ⟨j, by omega, ej _ hd, by rw [← hgl]⟩, ?_⟩
      rcases l3 with ⟨q, q2⟩ | ⟨i, hi, e, q⟩
      · refine .inl ⟨q, fun i hi => ?_⟩
        by_cases hij : i = j
        · subst hij; exact ej2 _ (by rw [hd]; exact p2)
        · exact q2 i (by omega)
      · exact .inr ⟨i, by omega, e, q⟩
    · -- m
      have hne : (U.lastI g u).n ≠ (U.edg (U.crit bl) j).dst := by
        rcases l2 with ⟨q, _⟩ | ⟨i, hi, e, q⟩
        · rw [q, hd]; exact p2
        · rw [q]; omega
      rw [if_neg hne]
      refine ⟨l1, ?_, .inr ⟨j, by omega, ej _ hd, by rw [← hgl]⟩⟩
      rcases l2 with ⟨q, q2⟩ | ⟨i, hi, e, q⟩
      · refine .inl ⟨q, fun i hi => ?_⟩
        by_cases hij : i = j
        · subst hij; exact ej2 _ (by rw [hd]; exact fun h => p2 h.symm)
        · exact q2 i (by omega)
      · exact .inr ⟨i, by omega, e, q⟩
  · have elast : U.lastI (U.splitStep g (U.edg (U.crit bl) j)) u = U.lastI g u := by
      have e1 := blk_old g (U.edg (U.crit bl) j) hub
      rw [if_neg hsu] at e1
      unfold U.lastI
      rw [e1]
    have ej : ∀ t, U.edg (U.crit bl) j ≠ ⟨u, t⟩ := fun t e => by rw [e] at hsu; exact hsu (by simp)
    rw [elast]
    refine ⟨l1, ?_, ?_⟩
    · rcases l2 with ⟨q, q2⟩ | ⟨i, hi, e, q⟩
      · refine .inl ⟨q, fun i hi => ?_⟩
        by_cases hij : i = j
        · subst hij; exact ej _
        · exact q2 i (by omega)
      · exact .inr ⟨i, by omega, e, q⟩
    · rcases l3 with ⟨q, q2⟩ | ⟨i, hi, e, q⟩
      · refine .inl ⟨q, fun i hi => ?_⟩
        by_cases hij : i = j
        · subst hij; exact ej _
        · exact q2 i (by omega)
      · exact .inr ⟨i, by omega, e, q⟩
theorem led_all : ∀ (d j : Nat) (g : List XB), j + d = (U.crit bl).length → CodeNe g → g.length = bl.length + j → (∀ u, u < bl.length → Led (U.crit bl) bl.length j u (U.lastI bl u) (U.lastI g u)) →
    (∀ u, u < bl.length → Led (U.crit bl) bl.length (U.crit bl).length u (U.lastI bl u) (U.lastI (U.splits g ((U.crit bl).drop j)) u)) ∧ CodeNe (U.splits g ((U.crit bl).drop j))
  | 0, j, g, hd, hg, hgl, h => by
    have : j = (U.crit bl).length := by omega
    subst this
    rw [List.drop_length]
    exact ⟨h, hg⟩
  | d + 1, j, g, hd, hg, hgl, h => by
    have hj : j < (U.crit bl).length := by omega
    obtain ⟨k1, _, _⟩ := (mem_crit hn hT).1 (edg_mem hj)
    obtain ⟨g1, g2, _, _⟩ := edge_in hT k1
    rw [dropE hj]
    exact led_all d (j + 1) (U.splitStep g (U.edg (U.crit bl) j)) (by omega) (step_ne hg (by omega)) (by rw [step_len]; omega) (led_step hn hT hj hg hgl h)
theorem led_end : (∀ u, u < bl.length → Led (U.crit bl) bl.length (U.crit bl).length u (U.lastI bl u) (U.lastI (U.splits bl (U.crit bl)) u)) ∧ CodeNe (U.splits bl (U.crit bl)) := by
  have h := led_all hn hT (U.crit bl).length 0 bl (by omega) hn rfl (fun u _ => ⟨rfl, .inl ⟨rfl, fun i hi => by omega⟩, .inl ⟨rfl, fun i hi => by omega⟩⟩)
  rw [List.drop_zero] at h
  exact h
theorem next_new {j : Nat} (hj : j < (U.crit bl).length) : U.nextAt (U.splits bl (U.crit bl)) ((bl.length + j : Nat) : Int) = [(U.edg (U.crit bl) j).dst] := by
  obtain ⟨_, h2⟩ := splits_blk bl.length (U.crit bl) bl (fun e he => by
    obtain ⟨k1, _, _⟩ := (mem_crit hn hT).1 he
    obtain ⟨g1, g2, _, _⟩ := edge_in hT k1
    omega) (Nat.le_refl _)
  have hl := splits_len (U.crit bl) bl
  rw [nextAt_last (led_end hn hT).2 (by omega)]
  unfold U.lastI
  rw [h2 j hj]
  rfl
theorem next_old {u : Nat} (hu : u < bl.length) {t : Int} (ht : t ∈ U.nextAt (U.splits bl (U.crit bl)) u) :
    (1 ≤ t ∧ t < bl.length ∧ t ∈ U.nextAt bl u ∧ ∀ i, i < (U.crit bl).length → U.edg (U.crit bl) i ≠ ⟨u, t⟩) ∨ ∃ j, j < (U.crit bl).length ∧ (U.edg (U.crit bl) j).src = u ∧ t = ((bl.length + j : Nat) : Int) := by
  obtain ⟨h1, h2⟩ := led_end hn hT
  obtain ⟨l1, l2, l3⟩ := h1 u hu
  have hl := splits_len (U.crit bl) bl
  have key : ∀ v, v ∈ U.nextAt bl u → 1 ≤ v ∧ v < bl.length := hT u hu
  rw [nextAt_last hn hu] at key
  rw [nextAt_last h2 (by omega), mem_next, l1] at ht
  rw [nextAt_last hn hu]
  rcases ht with ⟨o, rfl⟩ | ⟨o, rfl | rfl⟩
  · rcases l2 with ⟨q, q2⟩ | ⟨i, hi, e, q⟩
    · have hm : (U.lastI bl u).n ∈ U.next (U.lastI bl u) := mem_next.2 (.inl ⟨o, rfl⟩)
      rw [q]
      exact .inl ⟨(key _ hm).1, (key _ hm).2, hm, q2⟩
    · exact .inr ⟨i, hi, by rw [e], q⟩
  · rcases l2 with ⟨q, q2⟩ | ⟨i, hi, e, q⟩
    · have hm : (U.lastI bl u).n ∈ U.next (U.lastI bl u) := mem_next.2 (.inr ⟨o, .inl rfl⟩)
      rw [q]
      exact .inl ⟨(key _ hm).1, (key _ hm).2, hm, q2⟩
    · exact .inr ⟨i, hi, by rw [e], q⟩
  · rcases l3 with ⟨q, q2⟩ | ⟨i, hi, e, q⟩
    · have hm : (U.lastI bl u).m ∈ U.next (U.lastI bl u) := mem_next.2 (.inr ⟨o, .inr rfl⟩)
      rw [q]
      exact .inl ⟨(key _ hm).1, (key _ hm).2, hm, q2⟩
    · exact .inr ⟨i, hi, by rw [e], q⟩
/-- Where two blocks come next behind the split, two came ahead of it. -/
theorem two_old {u : Nat} (hu : u < bl.length) (h : ¬ ((U.nextAt (U.splits bl (U.crit bl)) u).length : Int) < 2) : ¬ ((U.nextAt bl u).length : Int) < 2 := by
  obtain ⟨h1, h2⟩ := led_end hn hT
  obtain ⟨l1, l2, l3⟩ := h1 u hu
  have hl := splits_len (U.crit bl) bl
  rw [nextAt_last h2 (by omega), next_two, l1] at h
  obtain ⟨o, hne⟩ := h
  rw [nextAt_last hn hu, next_two]
  refine ⟨o, fun e => hne ?_⟩
  have none : ∀ i, i < (U.crit bl).length → (U.edg (U.crit bl) i).src ≠ u := fun i hi hs => by
    have := ((mem_crit hn hT).1 (edg_mem hi)).2.2
    rw [hs, nextAt_last hn hu, next_two] at this
    exact this.2 e
  rcases l2 with ⟨q, _⟩ | ⟨i, hi, q, _⟩
  · rcases l3 with ⟨q3, _⟩ | ⟨i, hi, q3, _⟩
    · rw [q, q3, e]
    · exact absurd (by rw [q3]) (none i hi)
  · exact absurd (by rw [q]) (none i hi)
theorem tgt_split : TgtOk (U.splits bl (U.crit bl)) := by
  intro u hu t ht
  have hl := splits_len (U.crit bl) bl
  rw [hl] at hu ⊢
  by_cases h : u < bl.length
  · rcases next_old hn hT h ht with ⟨a, b, _⟩ | ⟨j, hj, _, rfl⟩
    · omega
    · have hN : 0 < bl.length := by omega
      omega
  · have e : u = bl.length + (u - bl.length) := by omega
    have hj : u - bl.length < (U.crit bl).length := by omega
    rw [e, next_new hn hT hj] at ht
    obtain ⟨k1, _, _⟩ := (mem_crit hn hT).1 (edg_mem hj)
    obtain ⟨_, _, g3, g4⟩ := edge_in hT k1
    have := List.mem_singleton.1 ht
    omega
/-- What was split has no critical edge. -/
theorem crit_split : U.crit (U.splits bl (U.crit bl)) = [] := by
  have hg := (led_end hn hT).2
  have hTg := tgt_split hn hT
  have hl := splits_len (U.crit bl) bl
  apply List.eq_nil_iff_forall_not_mem.2
  intro e he
  obtain ⟨h1, h2, h3⟩ := (mem_crit hg hTg).1 he
  have hle : (U.into (U.splits bl (U.crit bl)) e.dst.toNat).length ≤ 1 := by
    obtain ⟨u, hu, hs, hd⟩ := (mem_edges _ _).1 h1
    obtain ⟨_, _, d1, d2⟩ := edge_in hTg h1
    rw [hs] at h3
    have hold : u < bl.length := Decidable.byContradiction fun hno => by
      have eu : u = bl.length + (u - bl.length) := by omega
      have hj : u - bl.length < (U.crit bl).length := by omega
      rw [eu, next_new hn hT hj] at h3
      simp at h3
    have hdn : ((e.dst.toNat : Nat) : Int) = e.dst := by omega
    apply into_le_one hg (e0 := e)
    intro e' he' hd'
    rw [hdn] at hd'
    obtain ⟨u', hu', hs', hdd⟩ := (mem_edges _ _).1 he'
    have same : e'.src = e.src → e' = e := fun q => by cases e; cases e'; simp at q hd'; subst q; subst hd'; rfl
    apply same
    rw [hs', hs]
    rw [hd'] at hdd
    rcases next_old hn hT hold hd with ⟨a, b, c, c2⟩ | ⟨j, hj, q, qd⟩
    · -- an old one, that was not critical
      have hx : (⟨u, e.dst⟩ : XE) ∈ U.edges bl := (mem_edges _ _).2 ⟨u, hold, rfl, c⟩
      have hnc : (⟨u, e.dst⟩ : XE) ∉ U.crit bl := fun hm => by
        obtain ⟨i, hi, q⟩ := mem_getD hm
        exact c2 i hi q
      have hsm : (U.into bl e.dst.toNat).length ≤ 1 := Decidable.byContradiction fun hno => hnc ((mem_crit hn hT).2 ⟨hx, by show ¬ ((U.into bl e.dst.toNat).length : Int) < 2; omega, two_old hn hT hold h3⟩)
      by_cases hu'o : u' < bl.length
      · rcases next_old hn hT hu'o hdd with ⟨_, _, c', _⟩ | ⟨j, hj, _, qd⟩
        · have hx' : (⟨u', e.dst⟩ : XE) ∈ U.edges bl := (mem_edges _ _).2 ⟨u', hu'o, rfl, c'⟩
          have := one_of_le hsm hx hx' hdn.symm hdn.symm
          injection this with e1
          exact e1.symm
        · omega
      · have eu : u' = bl.length + (u' - bl.length) := by omega
        have hj : u' - bl.length < (U.crit bl).length := by omega
        rw [eu, next_new hn hT hj] at hdd
        have hq := List.mem_singleton.1 hdd
        have hk := (mem_crit hn hT).1 (edg_mem hj)
        have := one_of_le hsm hx hk.1 hdn.symm (by rw [← hq]; exact hdn.symm)
        exact absurd (this ▸ edg_mem hj) hnc
    · -- a new one
      by_cases hu'o : u' < bl.length
      · rcases next_old hn hT hu'o hdd with ⟨_, b, _⟩ | ⟨j', hj', q', qd'⟩
        · omega
        · have : j' = j := by omega
          subst this
          rw [← q', ← q]
      · have eu : u' = bl.length + (u' - bl.length) := by omega
        have hj2 : u' - bl.length < (U.crit bl).length := by omega
        rw [eu, next_new hn hT hj2] at hdd
        have hq := List.mem_singleton.1 hdd
        obtain ⟨k1, _, _⟩ := (mem_crit hn hT).1 (edg_mem hj2)
        obtain ⟨_, _, _, g4⟩ := edge_in hT k1
        omega
  omega
end
end Go.Proofs.Ytjgnnjoejlijjaa.E
