/- Words' laws on bits: what '&' answers at small masks. -/
import Derived.Test.YtdmgimfgoajmjaaGreatDoorC01
set_option linter.unusedVariables false
set_option linter.unusedSimpArgs false
namespace Go.Proofs.YtdmgimfgoajmjaaGreatDoor
open Go.RowKit
theorem and_mask (x : Int) (m j : Nat) (hm : m = 2 ^ j - 1) (hj : j < 63) : ((BitVec.ofInt 64 x) &&& (BitVec.ofInt 64 (m : Int))).toNat = (x % (2 ^ j : Nat)).toNat := by
 subst hm
 have h1 : 2 ^ j ≤ 2 ^ 62 := Nat.pow_le_pow_right (by omega) (by omega)
 have h0 : 0 < 2 ^ j := Nat.two_pow_pos j
 rw [BitVec.toNat_and, BitVec.toNat_ofInt, BitVec.toNat_ofInt]
 have e : ((((2 ^ j - 1 : Nat) : Int) % ((2 ^ 64 : Nat) : Int))).toNat = 2 ^ j - 1 := by
  rw [Int.emod_eq_of_lt (by omega) (by omega)]; simp
 rw [e, Nat.and_two_pow_sub_one_eq_mod]
 have hd : ((2 ^ j : Nat) : Int) ∣ ((2 ^ 64 : Nat) : Int) := by
  refine Int.natCast_dvd_natCast.2 ?_
  exact Nat.pow_dvd_pow 2 (by omega)
 have h2 : x % ((2 ^ 64 : Nat) : Int) % ((2 ^ j : Nat) : Int) = x % ((2 ^ j : Nat) : Int) := Int.emod_emod_of_dvd x hd
 have h3 : 0 ≤ x % ((2 ^ 64 : Nat) : Int) := Int.emod_nonneg _ (by omega)
 have h4 : (((x % ((2 ^ 64 : Nat) : Int)).toNat % 2 ^ j : Nat) : Int) = x % ((2 ^ j : Nat) : Int) := by
  rw [Int.natCast_emod, Int.toNat_of_nonneg h3]; exact h2
 omega
theorem wrap_small (n : Nat) (h : n < 4611686018427387904) : IntKind.i64.wrap (n : Int) = n := by
 simp [IntKind.wrap, IntKind.bits, IntKind.signed]; omega
theorem intBits_mask (x : Int) (m : Int) (j : Nat) (hm : m = ((2 ^ j - 1 : Nat) : Int)) (hj : j < 62) : Op.intBits .and .i64 x m = pure (.int .i64 (x % (2 ^ j : Nat))) := by
 subst hm
 have h1 : 2 ^ j ≤ 2 ^ 61 := Nat.pow_le_pow_right (by omega) (by omega)
 have h0 : 0 < 2 ^ j := Nat.two_pow_pos j
 have e := and_mask x (2 ^ j - 1) j rfl (by omega)
 have hb : 0 ≤ x % ((2 ^ j : Nat) : Int) := Int.emod_nonneg _ (by omega)
 have hl : x % ((2 ^ j : Nat) : Int) < ((2 ^ j : Nat) : Int) := Int.emod_lt_of_pos _ (by omega)
 show (pure (Value.int .i64 (IntKind.i64.wrap ((((BitVec.ofInt 64 x) &&& (BitVec.ofInt 64 ((2 ^ j - 1 : Nat) : Int))).toNat : Nat) : Int))) : Sem Value) = _
 rw [e, wrap_small _ (by omega), Int.toNat_of_nonneg hb]
@[go_sem high] theorem intBits_1 (x : Int) : Op.intBits .and .i64 x 1 = pure (.int .i64 (x % 2)) := intBits_mask x 1 1 rfl (by omega)
@[go_sem high] theorem intBits_3 (x : Int) : Op.intBits .and .i64 x 3 = pure (.int .i64 (x % 4)) := intBits_mask x 3 2 rfl (by omega)
end Go.Proofs.YtdmgimfgoajmjaaGreatDoor
