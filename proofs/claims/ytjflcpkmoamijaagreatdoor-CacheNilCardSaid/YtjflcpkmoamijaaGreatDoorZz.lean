import Derived.Test.YtjflcpkmoamijaaGreatDoorBase
import Derived.Laws.BitsLemmas
namespace Go.Proofs.YtjflcpkmoamijaaGreatDoor
open Go.RowKit
set_option linter.unusedVariables false
set_option linter.unusedSimpArgs false
set_option linter.unnecessarySimpa false

/-- Zigzag. -/
def zz (n : Int) : Nat := if n < 0 then (-2 * n - 1).toNat else (2 * n).toNat
theorem zz_lt {n : Int} (h0 : -9223372036854775808 ≤ n) (h1 : n < 9223372036854775808) : zz n < 18446744073709551616 := by unfold zz; split <;> omega
theorem wrap_u64' (n : Int) : IntKind.u64.wrap n = n % 18446744073709551616 := by rw [IntKind.wrap_u64]
theorem xor_zero64 (x : Int) (h0 : 0 ≤ x) (h1 : x < 18446744073709551616) : bits .xor .u64 x 0 = x := by
  show IntKind.u64.wrap (((BitVec.ofInt 64 x ^^^ BitVec.ofInt 64 0).toNat : Nat) : Int) = x
  rw [wrap_u64']
  have h : BitVec.ofInt 64 0 = 0#64 := by decide
  rw [h, BitVec.xor_zero, BitVec.toNat_ofInt]
  omega
theorem xor_ones64 (x : Int) (h0 : 0 ≤ x) (h1 : x < 18446744073709551616) : bits .xor .u64 x 18446744073709551615 = 18446744073709551615 - x := by
  show IntKind.u64.wrap (((BitVec.ofInt 64 x ^^^ BitVec.ofInt 64 18446744073709551615).toNat : Nat) : Int) = _
  rw [wrap_u64']
  have h : BitVec.ofInt 64 18446744073709551615 = BitVec.allOnes 64 := by decide
  rw [h, BitVec.xor_allOnes, BitVec.toNat_not, BitVec.toNat_ofInt]
  omega
/-- The walk's own spelling of 'uint64(n)<<1 ^ uint64(n>>63)'. -/
theorem zz_bits (n : Int) (h0 : -9223372036854775808 ≤ n) (h1 : n < 9223372036854775808) :
    bits .xor .u64 (IntKind.u64.wrap (IntKind.u64.wrap n * 2)) (IntKind.u64.wrap (n / 9223372036854775808)) = ((zz n : Nat) : Int) := by
  unfold zz
  simp only [wrap_u64']
  split
  · have e1 : (n / 9223372036854775808) % 18446744073709551616 = 18446744073709551615 := by omega
    rw [e1, xor_ones64 _ (by omega) (by omega)]
    omega
  · have e1 : (n / 9223372036854775808) % 18446744073709551616 = 0 := by omega
    rw [e1, xor_zero64 _ (by omega) (by omega)]
    omega
/-- and back: 'int(n>>1) ^ -int(n&1)'. -/
def unzz (n : Int) : Int := if n % 2 = 1 then -(n / 2) - 1 else n / 2
end Go.Proofs.YtjflcpkmoamijaaGreatDoor
