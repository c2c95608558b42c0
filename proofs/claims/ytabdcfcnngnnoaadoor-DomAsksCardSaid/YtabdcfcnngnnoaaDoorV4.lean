/- math/bits.TrailingZeros64 as a known function. -/
import Derived.WalkKit
import Derived.Lib.TrailingZeros
import Derived.Laws.Bits64b
import Derived.Below
import Derived.Test.YtabdcfcnngnnoaaDoorE24
import Derived.Test.YtabdcfcnngnnoaaDoorC0
import Derived.Test.YtabdcfcnngnnoaaDoorT0
import Derived.Test.YtabdcfcnngnnoaaDoorProg
set_option linter.unusedVariables false
set_option linter.unusedSimpArgs false
namespace Go.Proofs.YtabdcfcnngnnoaaDoor.E
open Go Go.RowKit
def tzP (args : List AV) (sto : List Row) : Option (AV × List Row × List Nat) :=
  match args, sto with
  | [.v (.int .u64 x)], [] => if 0 ≤ x ∧ x < 18446744073709551616 then some (.v (.int .i64 ((Lib.ctz 64 x.toNat : Nat) : Int)), [], []) else none
  | _, _ => none
theorem tz_key (x a : Nat) (hx : x < 18446744073709551616) (hx0 : x ≠ 0) (hlow : x &&& (18446744073709551616 - x) = a) :
    IntKind.u64.wrap (Go.bits BinOp.and IntKind.u64 (x : Int) (IntKind.u64.wrap (-(x : Int))) * 285870213051353865) / 288230376151711744 = ((a * 285870213051353865 % 18446744073709551616 / 288230376151711744 : Nat) : Int) := by
  have e1 : IntKind.u64.wrap (-(x : Int)) = ((18446744073709551616 - x : Nat) : Int) := by rw [IntKind.wrap_u64]; omega
  rw [e1, Go.bits_and_u64_nat x _ hx (by omega), hlow, IntKind.wrap_u64]
  omega
set_option maxHeartbeats 1000000 in
theorem tz_core (x k idx : Nat) (w : World) (hx0 : ((x : Int) == 0) = false)
    (key : IntKind.u64.wrap (Go.bits BinOp.and IntKind.u64 (x : Int) (IntKind.u64.wrap (-(x : Int))) * 285870213051353865) / 288230376151711744 = (idx : Int))
    (hi : idx < 64) (hk : k < 64) (hcell : w.cell? ⟨0, idx, none⟩ = some (.int .u8 k)) :
    Calls Tryd.prog 64 #[.int .u64 x] w fun e w' => e = .returned (.int .i64 k) ∧ w' = w := by
  go_enter Tryd.func64, Tryd.ntmps64
  go_wp2_with (simp only [key])
  go_ret
  exact ⟨rfl, rfl⟩
theorem tz_zero (w : World) : Calls Tryd.prog 64 #[.int .u64 0] w fun e w' => e = .returned (.int .i64 64) ∧ w' = w := by
  go_enter Tryd.func64, Tryd.ntmps64
  go_wp2
  go_ret
  exact ⟨rfl, rfl⟩
theorem bruijn_at {ρ : Gh} {w : World} (h : TabOk ρ w) (j : Nat) (hj : j < 64) : w.cell? ⟨0, j, none⟩ = some (.int .u8 ((Lib.deBruijn64tab.getD j 0 : Nat) : Int)) := by
  have hl : Lib.deBruijn64tab.length = 64 := by decide
  have hm : ((⟨0, j, none⟩ : Addr), Value.int .u8 (((Lib.deBruijn64tab[j]'(by omega)) : Nat) : Int)) ∈ TABS := by
    unfold TABS
    refine List.mem_append_right _ (List.mem_map.2 ⟨(Lib.deBruijn64tab[j]'(by omega), j), ?_, rfl⟩)
    rw [List.mem_zipIdx_iff_getElem?]
    exact List.getElem?_eq_getElem (by omega)
  have := (h _ hm).2
  rw [this, List.getD_eq_getElem?_getD, List.getElem?_eq_getElem (by omega)]
  rfl
theorem tz_inv {ρ : Gh} {w : World} {x y : Value} (h : RV ρ w (.v x) y) : y = x := by cases h; rfl
theorem tz_calls (args : List AV) (sto : List Row) (r : AV) (s1 : List Row) (mv : List Nat) (h : tzP args sto = some (r, s1, mv)) (ρ : Gh) (w : World) (vs : Array Value) (hS : StoOk ρ w sto) (hv : RVs ρ w args vs.toList) :
    Calls Tryd.prog 64 vs w fun e w' => ∃ v ρ', e = .returned v ∧ RV ρ' w' r v ∧ StoOk ρ' w' s1 ∧ Ext ρ w ρ' w' (mv ++ List.range' sto.length (s1.length - sto.length)) := by
  unfold tzP at h
  split at h
  · rename_i a0
    split at h
    · rename_i h01
      cases h
      obtain ⟨y, rs, hvs, h1, h2⟩ := hv.head
      have hrs : rs = [] := List.eq_nil_of_length_eq_zero (by rw [← h2.1]; rfl)
      subst hrs
      obtain rfl := tz_inv h1
      obtain ⟨x, rfl⟩ := Int.eq_ofNat_of_zero_le h01.1
      have hvs' : vs = #[.int .u64 x] := by cases vs; simp_all
      rw [hvs', Int.toNat_natCast]
      have hx : x < 18446744073709551616 := by omega
      by_cases hx0 : x = 0
      · subst hx0
        refine (tz_zero w).mono ?_
        rintro e w' ⟨rfl, rfl⟩
        exact ⟨_, ρ, rfl, .v _, hS, Ext.refl _ _ _⟩
      · obtain ⟨hlow, hk⟩ := Lib.lowest_bit 64 x hx0 hx
        obtain ⟨hi, htab⟩ := Lib.deBruijn64_at _ hk
        have hcell := bruijn_at hS.tab _ hi
        rw [htab] at hcell
        refine (tz_core x _ _ w (by simp; omega) (tz_key x _ hx hx0 hlow) hi hk hcell).mono ?_
        rintro e w' ⟨rfl, rfl⟩
        exact ⟨_, ρ, rfl, .v _, hS, Ext.refl _ _ _⟩
    · cases h
  · cases h
end Go.Proofs.YtabdcfcnngnnoaaDoor.E
