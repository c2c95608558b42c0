/- A walk on from a place: is a variable asked for ahead of being set? The plain law. No program here. -/
import Derived.Test.YtdnekkkpngnmkaaDoorL0
set_option linter.unusedVariables false
set_option linter.unusedSimpArgs false
namespace Go.Proofs.YtdnekkkpngnmkaaDoor.E
open Go
namespace U
def scanI (v : Int) : List XI → Option Bool
  | [] => Option.none
  | x :: l => if hasI (uses x) v then Option.some true else if has x.op 68 && (x.d == v) then Option.some false else scanI v l
def goN (rec : Int → List Bool → Bool × List Bool) : List Int → List Bool → Bool × List Bool
  | [], m => (false, m)
  | t :: ts, m => if skip m t then goN rec ts m else if (rec t (m.set t.toNat true)).1 then (true, (rec t (m.set t.toNat true)).2) else goN rec ts (rec t (m.set t.toNat true)).2
def outS (s : Option Bool) (m : List Bool) (e : Bool × List Bool) : Bool × List Bool := match s with
  | Option.some r => (r, m)
  | none => e
def fromS (bl : List XB) (v : Int) : Nat → Int → Nat → List Bool → Bool × List Bool
  | 0, b, i, m => outS (scanI v ((blk bl b.toNat).code.drop i)) m (goN (fun _ m => (false, m)) (nextAt bl b) m)
  | k + 1, b, i, m => outS (scanI v ((blk bl b.toNat).code.drop i)) m (goN (fun t m => fromS bl v k t 0 m) (nextAt bl b) m)
end U
/-- What a walk never undoes. -/
structure FarM (m m' : List Bool) : Prop where
  len : m'.length = m.length
  unm : U.unm m' ≤ U.unm m
  mono : ∀ x, on m x → on m' x
theorem FarM.refl (m : List Bool) : FarM m m := ⟨rfl, Nat.le_refl _, fun _ h => h⟩
theorem FarM.trans {a b c : List Bool} (h : FarM a b) (g : FarM b c) : FarM a c := ⟨g.len.trans h.len, Nat.le_trans g.unm h.unm, fun x hx => g.mono x (h.mono x hx)⟩
theorem FarM.set {m : List Bool} {t : Int} (h : U.skip m t = false) : FarM m (m.set t.toNat true) := by
  obtain ⟨h0, h1, h2, h3⟩ := skip_no h
  have := unm_set m t.toNat (by omega) h3
  exact ⟨List.length_set, by omega, fun x hx => (on_set x (by omega)).2 (.inl hx)⟩
theorem goN_far {rec : Int → List Bool → Bool × List Bool} (hr : ∀ t m, FarM m (rec t m).2) : ∀ (ts : List Int) (m : List Bool), FarM m (U.goN rec ts m).2
  | [], m => FarM.refl m
  | t :: ts, m => by
    unfold U.goN
    split
    · exact goN_far hr ts m
    · rename_i hs
      have h1 := (FarM.set (by simpa using hs)).trans (hr t (m.set t.toNat true))
      split
      · exact h1
      · exact h1.trans (goN_far hr ts _)
theorem outS_far {s : Option Bool} {m : List Bool} {e : Bool × List Bool} (h : FarM m e.2) : FarM m (U.outS s m e).2 := by
  cases s with
  | none => exact h
  | some r => exact FarM.refl m
theorem fromS_far (bl : List XB) (v : Int) : ∀ (k : Nat) (b : Int) (i : Nat) (m : List Bool), FarM m (U.fromS bl v k b i m).2
  | 0, b, i, m => outS_far (goN_far (fun _ m => FarM.refl m) _ m)
  | k + 1, b, i, m => outS_far (goN_far (fun t m => fromS_far bl v k t 0 m) _ m)
section
variable (bl : List XB) (v : Nat)
theorem scan_some {b : Nat} : ∀ (d i : Nat), i + d = (U.blk bl b).code.length → U.scanI v ((U.blk bl b).code.drop i) = some true → LiveAt bl b i v
  | 0, i, hd, h => by rw [List.drop_of_length_le (by omega)] at h; cases h
  | d + 1, i, hd, h => by
    have hi : i < (U.blk bl b).code.length := by omega
    rw [drop_ins hi] at h
    unfold U.scanI at h
    split at h
    · rename_i hu
      exact .use b i v hi ((hasI_iff _ _).1 hu)
    · split at h
      · cases h
      · rename_i hs
        refine .step b i v hi (fun q => hs ?_) (scan_some d (i + 1) (by omega) h)
        rw [q.1, q.2]; simp
theorem scan_none {b : Nat} (hn : ∃ t ∈ U.nextAt bl b, LiveAt bl t.toNat 0 v) : ∀ (d i : Nat), i + d = (U.blk bl b).code.length → U.scanI v ((U.blk bl b).code.drop i) = none → LiveAt bl b i v
  | 0, i, hd, h => by
    obtain ⟨t, h1, h2⟩ := hn
    exact .next b i v t (by omega) h1 h2
  | d + 1, i, hd, h => by
    have hi : i < (U.blk bl b).code.length := by omega
    rw [drop_ins hi] at h
    unfold U.scanI at h
    split at h
    · cases h
    · split at h
      · cases h
      · rename_i hs
        refine .step b i v hi (fun q => hs ?_) (scan_none hn d (i + 1) (by omega) h)
        rw [q.1, q.2]; simp
theorem goN_sound {rec : Int → List Bool → Bool × List Bool} (hr : ∀ t m, 0 ≤ t → (rec t m).1 = true → LiveAt bl t.toNat 0 v) : ∀ (ts : List Int) (m : List Bool), (U.goN rec ts m).1 = true → ∃ t ∈ ts, LiveAt bl t.toNat 0 v
  | [], m, h => by cases h
  | t :: ts, m, h => by
    unfold U.goN at h
    split at h
    · obtain ⟨u, h1, h2⟩ := goN_sound hr ts m h
      exact ⟨u, List.mem_cons_of_mem _ h1, h2⟩
    · rename_i hs
      obtain ⟨h0, _⟩ := skip_no (by simpa using hs)
      split at h
      · rename_i hc
        exact ⟨t, by simp, hr t _ h0 hc⟩
      · obtain ⟨u, h1, h2⟩ := goN_sound hr ts _ h
        exact ⟨u, List.mem_cons_of_mem _ h1, h2⟩
theorem out_sound {b i : Nat} {m : List Bool} {e : Bool × List Bool} (hi : i ≤ (U.blk bl b).code.length) (he : e.1 = true → ∃ t ∈ U.nextAt bl b, LiveAt bl t.toNat 0 v) (h : (U.outS (U.scanI v ((U.blk bl b).code.drop i)) m e).1 = true) : LiveAt bl b i v := by
  cases hs : U.scanI v ((U.blk bl b).code.drop i) with
  | none =>
    rw [hs] at h
    exact scan_none bl v (he h) ((U.blk bl b).code.length - i) i (by omega) hs
  | some r =>
    rw [hs] at h
    have : r = true := h
    subst this
    exact scan_some bl v ((U.blk bl b).code.length - i) i (by omega) hs
theorem fromS_sound : ∀ (k b i : Nat) (m : List Bool), i ≤ (U.blk bl b).code.length → (U.fromS bl v k b i m).1 = true → LiveAt bl b i v
  | 0, b, i, m, hi, h => by
    unfold U.fromS at h
    rw [Int.toNat_natCast] at h
    exact out_sound bl v hi (fun he => goN_sound bl v (fun t m _ h => by cases h) _ m he) h
  | k + 1, b, i, m, hi, h => by
    unfold U.fromS at h
    rw [Int.toNat_natCast] at h
    refine out_sound bl v hi (fun he => goN_sound bl v (fun t m h0 h => ?_) _ m he) h
    have e : ((t.toNat : Nat) : Int) = t := by omega
    rw [← e] at h
    exact fromS_sound k t.toNat 0 m (Nat.zero_le _) h
/-- A block from which nothing more is to be had. -/
def Shut (m : List Bool) (b i : Nat) : Prop := U.scanI v ((U.blk bl b).code.drop i) ≠ some true ∧ (U.scanI v ((U.blk bl b).code.drop i) = none → ∀ t ∈ U.nextAt bl b, on m t.toNat)
variable {bl v}
theorem Shut.mono {m m' : List Bool} (h : ∀ x, on m x → on m' x) {b i : Nat} (hs : Shut bl v m b i) : Shut bl v m' b i := ⟨hs.1, fun q t ht => h _ (hs.2 q t ht)⟩
theorem dead_no : ∀ (b i v : Nat), LiveAt bl b i v → ∀ m : List Bool, (∀ x, on m x → Shut bl v m x 0) → Shut bl v m b i → False := by
  intro b i v h
  induction h with
  | use b i v h1 h2 =>
    intro m _ hs
    refine hs.1 ?_
    rw [drop_ins h1]
    unfold U.scanI
    rw [if_pos ((hasI_iff _ _).2 h2)]
  | step b i v h1 h2 h3 ih =>
    intro m hm hs
    refine ih m hm ?_
    have e : U.scanI v ((U.blk bl b).code.drop i) = U.scanI v ((U.blk bl b).code.drop (i + 1)) := by
      rw [drop_ins h1]
      have h9 : U.hasI (U.uses (U.ins (U.blk bl b).code i)) v = false := by
        cases hu : U.hasI (U.uses (U.ins (U.blk bl b).code i)) v with
        | false => rfl
        | true =>
          refine absurd ?_ hs.1
          rw [drop_ins h1]
          unfold U.scanI
          rw [if_pos hu]
      conv => lhs; unfold U.scanI
      rw [if_neg (by rw [h9]; simp), if_neg (fun q => h2 (by simpa using q))]
    unfold Shut at hs ⊢
    rw [← e]
    exact hs
  | next b i v t h1 h2 h3 ih =>
    intro m hm hs
    have := hs.2 (by rw [List.drop_of_length_le h1]; rfl) t h2
    exact ih m hm (hm _ this)
/-- What a walk that finds nothing leaves behind. -/
structure Spent (bl : List XB) (v : Nat) (m m' : List Bool) : Prop where
  new : ∀ x, on m' x → on m x ∨ Shut bl v m' x 0
theorem Spent.refl (m : List Bool) : Spent bl v m m := ⟨fun x h => .inl h⟩
theorem Spent.trans {a b c : List Bool} (h : Spent bl v a b) (g : Spent bl v b c) (hg : FarM b c) : Spent bl v a c := ⟨fun x hx => by
  rcases g.new x hx with q | q
  · rcases h.new x q with q | q
    · exact .inl q
    · exact .inr (q.mono hg.mono)
  · exact .inr q⟩
theorem goN_dead {k : Nat} {rec : Int → List Bool → Bool × List Bool} (hf : ∀ t m, FarM m (rec t m).2) (hr : ∀ (t : Int) (m : List Bool), U.unm m + 1 ≤ k → 0 ≤ t → t < bl.length → m.length = bl.length → (rec t m).1 = false → Spent bl v m (rec t m).2 ∧ Shut bl v (rec t m).2 t.toNat 0) :
    ∀ (ts : List Int) (m : List Bool), U.unm m ≤ k → m.length = bl.length → (∀ t ∈ ts, 0 ≤ t ∧ t < bl.length) → (U.goN rec ts m).1 = false → Spent bl v m (U.goN rec ts m).2 ∧ ∀ t ∈ ts, on (U.goN rec ts m).2 t.toNat
  | [], m, _, _, _, _ => ⟨Spent.refl m, fun t ht => by cases ht⟩
  | t :: ts, m, hk, hm, hts, h => by
    obtain ⟨t0, t1⟩ := hts t (by simp)
    unfold U.goN at h ⊢
    cases hs : U.skip m t with
    | true =>
      rw [hs, if_pos rfl] at h
      rw [if_pos rfl]
      obtain ⟨g1, g2⟩ := goN_dead hf hr ts m hk hm (fun u hu => hts u (List.mem_cons_of_mem _ hu)) h
      have hon := skip_in hs t0 (by omega)
      refine ⟨g1, fun u hu => ?_⟩
      rcases List.mem_cons.1 hu with rfl | hu
      · exact (goN_far hf ts m).mono _ hon
      · exact g2 u hu
    | false =>
      rw [hs, if_neg (by simp)] at h
      rw [if_neg (by simp)]
      have hset := FarM.set hs
      have h3 := unm_set m t.toNat (by omega) (skip_no hs).2.2.2
      cases hc : (rec t (m.set t.toNat true)).1 with
      | true => rw [hc, if_pos rfl] at h; cases h
      | false =>
        rw [hc, if_neg (by simp)] at h
        rw [if_neg (by simp)]
        obtain ⟨q1, q2⟩ := hr t (m.set t.toNat true) (by omega) t0 t1 (by rw [List.length_set]; exact hm) hc
        have hfr := hf t (m.set t.toNat true)
        obtain ⟨g1, g2⟩ := goN_dead hf hr ts (rec t (m.set t.toNat true)).2 (by have := hfr.unm; omega) (by rw [hfr.len, List.length_set]; exact hm) (fun u hu => hts u (List.mem_cons_of_mem _ hu)) h
        have hff := goN_far hf ts (rec t (m.set t.toNat true)).2
        have hst : Spent bl v m (rec t (m.set t.toNat true)).2 := ⟨fun x hx => by
          rcases q1.new x hx with q | q
          · rcases (on_set x (by omega)).1 q with q | q
            · exact .inl q
            · subst q; exact .inr q2
          · exact .inr q⟩
        refine ⟨hst.trans g1 hff, fun u hu => ?_⟩
        rcases List.mem_cons.1 hu with rfl | hu
        · exact hff.mono _ (hfr.mono _ ((on_set _ (by omega)).2 (.inr rfl)))
        · exact g2 u hu
variable (hu : UsesOk bl)
include hu
theorem fromS_dead : ∀ (k b i : Nat) (m : List Bool), U.unm m ≤ k → b < bl.length → m.length = bl.length → (U.fromS bl v k b i m).1 = false → Spent bl v m (U.fromS bl v k b i m).2 ∧ Shut bl v (U.fromS bl v k b i m).2 b i := by
  have fin : ∀ (b i : Nat) (m : List Bool) (e : Bool × List Bool), (e.1 = false → Spent bl v m e.2 ∧ ∀ t ∈ U.nextAt bl b, on e.2 t.toNat) → (U.outS (U.scanI v ((U.blk bl b).code.drop i)) m e).1 = false →
      Spent bl v m (U.outS (U.scanI v ((U.blk bl b).code.drop i)) m e).2 ∧ Shut bl v (U.outS (U.scanI v ((U.blk bl b).code.drop i)) m e).2 b i := by
    intro b i m e he h
    unfold Shut
    cases hs : U.scanI v ((U.blk bl b).code.drop i) with
    | none =>
      rw [hs] at h
      obtain ⟨h1, h2⟩ := he h
      exact ⟨h1, by simp, fun _ => h2⟩
    | some r =>
      rw [hs] at h
      have : r = false := h
      subst this
      exact ⟨Spent.refl m, by simp, fun q => by cases q⟩
  intro k
  induction k with
  | zero =>
    intro b i m hk hb hm h
    unfold U.fromS at h ⊢
    rw [Int.toNat_natCast] at h ⊢
    refine fin b i m _ (fun he => ?_) h
    exact goN_dead (k := 0) (fun _ m => FarM.refl m) (fun t m q => by omega) _ m hk hm (fun t ht => hu.next b (by omega) (by omega) t ht) he
  | succ k ih =>
    intro b i m hk hb hm h
    unfold U.fromS at h ⊢
    rw [Int.toNat_natCast] at h ⊢
    refine fin b i m _ (fun he => ?_) h
    refine goN_dead (k := k + 1) (fun t m => fromS_far bl v k t 0 m) (fun t m q t0 t1 hm' hc => ?_) _ m hk hm (fun t ht => hu.next b (by omega) (by omega) t ht) he
    have e : ((t.toNat : Nat) : Int) = t := by omega
    have := ih t.toNat 0 m (by omega) (by omega) hm'
    rw [e] at this
    exact this hc
/-- The walk tells what is asked for yet. -/
theorem from_live {b i k : Nat} (hb : b < bl.length) (hi : i ≤ (U.blk bl b).code.length) (hk : bl.length ≤ k) : (U.fromS bl v k b i (List.replicate bl.length false)).1 = true ↔ LiveAt bl b i v := by
  constructor
  · exact fromS_sound bl v k b i _ hi
  · intro h
    cases hc : (U.fromS bl v k b i (List.replicate bl.length false)).1 with
    | true => rfl
    | false =>
      exfalso
      obtain ⟨g1, g2⟩ := fromS_dead hu k b i (List.replicate bl.length false) (by unfold U.unm; have := List.count_le_length (a := false) (l := List.replicate bl.length false); rw [List.length_replicate] at this; omega) hb (by simp) hc
      refine dead_no b i v h _ (fun x hx => ?_) g2
      rcases g1.new x hx with q | q
      · exact absurd q (on_false _ _)
      · exact q
end
end Go.Proofs.YtdnekkkpngnmkaaDoor.E
