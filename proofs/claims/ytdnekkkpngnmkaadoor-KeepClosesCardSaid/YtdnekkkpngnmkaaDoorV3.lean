/- The parts of an operation, and where a byte stands in a text, as known functions. -/
import Derived.WalkKit
import Derived.Lib.Walk
import Derived.Lib.Strings
import Derived.Lib.Slices
import Derived.Lib.Bytealg
import Derived.BigCall
import Derived.BigGuard
import Derived.Laws.Externs
import Derived.Test.YtdnekkkpngnmkaaDoorE24
import Derived.Test.YtdnekkkpngnmkaaDoorC0
import Derived.Test.YtdnekkkpngnmkaaDoorProg
set_option linter.unusedVariables false
set_option linter.unusedSimpArgs false
namespace Go.Proofs.YtdnekkkpngnmkaaDoor.E
open Go Go.RowKit
/-- The parts of an operation. -/
def partsN (n : Int) : ByteArray := if 0 ≤ n ∧ n < 24 then ⟨(PARTS.getD n.toNat []).toArray⟩ else ⟨#[]⟩
def partsP (args : List AV) (sto : List Row) : Option (AV × List Row × List Nat) :=
  match args, sto with
  | [.v (.int .i64 n)], [] => some (.v (.string (partsN n)), [], [])
  | _, _ => none
def ixP (args : List AV) (sto : List Row) : Option (AV × List Row × List Nat) :=
  match args, sto with
  | [.v (.string s), .v (.int .u8 c)], [] => some (.v (.int .i64 (Lib.indexByte s.data.toList c.toNat.toUInt8)), [], [])
  | _, _ => none
set_option maxHeartbeats 1000000 in
set_option maxRecDepth 100000 in
theorem ix_at (s : ByteArray) (c : Int) (w : World) :
    Calls Tryd.prog 104 #[.string s, .int .u8 c] w fun e w' => e = .returned (.int .i64 (Lib.indexByte s.data.toList c.toNat.toUInt8)) ∧ w' = w := by
  go_enter Tryd.func104, Tryd.ntmps104
  go_wp2
  rw [run_callFunc_extern Tryd.func116 (by kernel_rfl) (by kernel_rfl) (by kernel_rfl) (e := Extern.BytealgIndexByte.indexByte) (by kernel_rfl), Lib.run_indexByteString]
  simp only [Result.andThen]
  rw [Oper.upon_value]
  go_wp2
  go_ret
  exact ⟨rfl, rfl⟩
set_option maxHeartbeats 1000000 in
set_option maxRecDepth 100000 in
theorem parts_no (n : Int) (h : ¬ (0 ≤ n ∧ n < 24)) (w : World) :
    Calls Tryd.prog 101 #[.int .i64 n] w fun e w' => e = .returned (.string ⟨#[]⟩) ∧ w' = w := by
  go_enter Tryd.func101, Tryd.ntmps101
  go_wp2
  all_goals first
    | (go_ret; exact ⟨rfl, rfl⟩)
    | (exfalso; omega)
set_option maxHeartbeats 1000000 in
set_option maxRecDepth 100000 in
theorem parts_at (n : Nat) (h : n < 24) (s : ByteArray) (w : World) (hc : w.cell? ⟨1, n, none⟩ = some (.string s)) :
    Calls Tryd.prog 101 #[.int .i64 n] w fun e w' => e = .returned (.string s) ∧ w' = w := by
  go_enter Tryd.func101, Tryd.ntmps101
  go_wp2
  all_goals first
    | (go_ret; exact ⟨rfl, rfl⟩)
    | (exfalso; omega)
theorem tab_at {ρ : Gh} {w : World} (h : TabOk ρ w) (n : Nat) (hn : n < 24) : w.cell? ⟨1, n, none⟩ = some (.string (partsN n)) := by
  have hl : PARTS.length = 24 := by decide
  have hm : ((⟨1, n, none⟩ : Addr), Value.string ⟨(PARTS[n]'(by omega)).toArray⟩) ∈ TABS := by
    unfold TABS
    refine List.mem_append_left _ (List.mem_map.2 ⟨(PARTS[n]'(by omega), n), ?_, rfl⟩)
    rw [List.mem_zipIdx_iff_getElem?]
    exact List.getElem?_eq_getElem (by omega)
  have := (h _ hm).2
  rw [this]
  unfold partsN
  rw [if_pos ⟨by omega, by omega⟩, Int.toNat_natCast, List.getD_eq_getElem?_getD, List.getElem?_eq_getElem (by omega)]
  rfl
theorem v_inv {ρ : Gh} {w : World} {x y : Value} (h : RV ρ w (.v x) y) : y = x := by cases h; rfl
theorem parts_calls (args : List AV) (sto : List Row) (r : AV) (s1 : List Row) (mv : List Nat) (h : partsP args sto = some (r, s1, mv)) (ρ : Gh) (w : World) (vs : Array Value) (hS : StoOk ρ w sto) (hv : RVs ρ w args vs.toList) :
    Calls Tryd.prog 101 vs w fun e w' => ∃ v ρ', e = .returned v ∧ RV ρ' w' r v ∧ StoOk ρ' w' s1 ∧ Ext ρ w ρ' w' (mv ++ List.range' sto.length (s1.length - sto.length)) := by
  unfold partsP at h
  split at h
  · rename_i n
    cases h
    obtain ⟨y, rs, hvs, h1, h2⟩ := hv.head
    have hrs : rs = [] := List.eq_nil_of_length_eq_zero (by rw [← h2.1]; rfl)
    subst hrs
    obtain rfl := v_inv h1
    have hvs' : vs = #[.int .i64 n] := by cases vs; simp_all
    rw [hvs']
    by_cases hn : 0 ≤ n ∧ n < 24
    · obtain ⟨k, rfl⟩ := Int.eq_ofNat_of_zero_le hn.1
      refine (parts_at k (by omega) _ w (tab_at hS.tab k (by omega))).mono ?_
      rintro e w' ⟨rfl, rfl⟩
      exact ⟨_, ρ, rfl, .v _, hS, Ext.refl _ _ _⟩
    · have hp : partsN n = ⟨#[]⟩ := if_neg hn
      rw [hp]
      refine (parts_no n hn w).mono ?_
      rintro e w' ⟨rfl, rfl⟩
      exact ⟨_, ρ, rfl, .v _, hS, Ext.refl _ _ _⟩
  · cases h
theorem ix_calls (args : List AV) (sto : List Row) (r : AV) (s1 : List Row) (mv : List Nat) (h : ixP args sto = some (r, s1, mv)) (ρ : Gh) (w : World) (vs : Array Value) (hS : StoOk ρ w sto) (hv : RVs ρ w args vs.toList) :
    Calls Tryd.prog 104 vs w fun e w' => ∃ v ρ', e = .returned v ∧ RV ρ' w' r v ∧ StoOk ρ' w' s1 ∧ Ext ρ w ρ' w' (mv ++ List.range' sto.length (s1.length - sto.length)) := by
  unfold ixP at h
  split at h
  · rename_i s c
    cases h
    obtain ⟨y, rs, hvs, h1, h2⟩ := hv.head
    obtain ⟨y2, rs2, hvs2, h3, h4⟩ := h2.head
    have hrs : rs2 = [] := List.eq_nil_of_length_eq_zero (by rw [← h4.1]; rfl)
    subst hrs
    subst hvs2
    obtain rfl := v_inv h1
    obtain rfl := v_inv h3
    have hvs' : vs = #[.string s, .int .u8 c] := by cases vs; simp_all
    rw [hvs']
    refine (ix_at s c w).mono ?_
    rintro e w' ⟨rfl, rfl⟩
    exact ⟨_, ρ, rfl, .v _, hS, Ext.refl _ _ _⟩
  · cases h
end Go.Proofs.YtdnekkkpngnmkaaDoor.E
