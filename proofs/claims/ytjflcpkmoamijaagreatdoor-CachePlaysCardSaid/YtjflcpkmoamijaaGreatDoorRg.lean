import Derived.Test.YtjflcpkmoamijaaGreatDoorSt
namespace Go.Proofs.YtjflcpkmoamijaaGreatDoor
open Go.RowKit
set_option linter.unusedVariables false
set_option linter.unusedSimpArgs false
set_option linter.unnecessarySimpa false

/-! ### A number read digit by digit, and from its highest digit: plain Lean -/
def dig (s : ByteArray) (i : Nat) : Nat := byteAt s i % 128
def valP (s : ByteArray) (a : Nat) : Nat → Nat
  | 0 => 0
  | k + 1 => valP s a k + dig s (a + k) * 2 ^ (7 * k)
/-- m digits from place i on. -/
def hiV (s : ByteArray) : Nat → Nat → Nat
  | _, 0 => 0
  | i, m + 1 => dig s i + 128 * hiV s (i + 1) m
theorem dig_lt (s : ByteArray) (i : Nat) : dig s i < 128 := Nat.mod_lt _ (by omega)
theorem pow_seven (k : Nat) : (2 : Nat) ^ (7 * (k + 1)) = 128 * 2 ^ (7 * k) := by rw [show 7 * (k + 1) = 7 + 7 * k by omega, Nat.pow_add]
theorem valP_lt (s : ByteArray) (a : Nat) : ∀ k, valP s a k < 2 ^ (7 * k)
  | 0 => by simp [valP]
  | k + 1 => by
    have h1 := valP_lt s a k
    have h2 := dig_lt s (a + k)
    have h3 : dig s (a + k) * 2 ^ (7 * k) ≤ 127 * 2 ^ (7 * k) := Nat.mul_le_mul_right _ (by omega)
    rw [pow_seven]
    unfold valP
    omega
theorem hiV_snoc (s : ByteArray) : ∀ (m i : Nat), hiV s i (m + 1) = hiV s i m + dig s (i + m) * 2 ^ (7 * m)
  | 0, i => by simp [hiV]
  | m + 1, i => by
    have h := hiV_snoc s m (i + 1)
    have e : hiV s i (m + 1 + 1) = dig s i + 128 * hiV s (i + 1) (m + 1) := rfl
    have e2 : hiV s i (m + 1) = dig s i + 128 * hiV s (i + 1) m := rfl
    rw [e, h, e2, pow_seven, Nat.mul_add, show i + 1 + m = i + (m + 1) by omega]
    rw [Nat.mul_left_comm]
    omega
theorem hiV_val (s : ByteArray) (a : Nat) : ∀ k, hiV s a k = valP s a k
  | 0 => rfl
  | k + 1 => by rw [hiV_snoc, hiV_val s a k]; rfl
theorem hiV_le (s : ByteArray) : ∀ (j i m : Nat), hiV s (i + j) m ≤ hiV s i (j + m)
  | 0, i, m => by rw [Nat.zero_add]; exact Nat.le_refl _
  | j + 1, i, m => by
    have h := hiV_le s j (i + 1) m
    rw [show i + 1 + j = i + (j + 1) by omega] at h
    have e : hiV s i (j + 1 + m) = dig s i + 128 * hiV s (i + 1) (j + m) := by rw [show j + 1 + m = (j + m) + 1 by omega]; rfl
    rw [e]
    omega
/-- So far as every byte goes on. -/
theorem go_run (s : ByteArray) (a : Nat) : ∀ k, k ≤ 9 → (∀ i, i < k → a + i < s.size ∧ 128 ≤ byteAt s (a + i)) → uintR s a = uintGo s (10 - k) k (a + k) (valP s a k : Nat)
  | 0, _, _ => rfl
  | k + 1, hk, h => by
    have ih := go_run s a k (by omega) (fun i hi => h i (by omega))
    obtain ⟨h1, h2⟩ := h k (by omega)
    have hp := valP_lt s a k
    have hp2 := valP_lt s a (k + 1)
    have hb : (2 : Nat) ^ (7 * (k + 1)) ≤ 2 ^ 63 := Nat.pow_le_pow_right (by omega) (by omega)
    rw [ih, show 10 - k = (10 - (k + 1)) + 1 by omega, uintGo_on h1 h2, rdStep_eq _ _ _ (byteAt_lt s _) hp (by unfold valP dig at hp2; omega)]
    rfl
theorem next_ten {s : ByteArray} {a : Nat} (h : ∀ i, i < 10 → a + i < s.size ∧ 128 ≤ byteAt s (a + i)) : (uintR s a).2.1 = 4 ∧ (uintR s a).1 = 0 := by
  rw [go_run s a 9 (Nat.le_refl _) (fun i hi => h i (by omega))]
  obtain ⟨h1, h2⟩ := h 9 (by omega)
  rw [show 10 - 9 = 0 + 1 by rfl, uintGo_on h1 h2, uintGo_zero]
  exact ⟨rfl, rfl⟩
theorem next_end {s : ByteArray} {a k : Nat} (hk : k < 10) (h : ∀ i, i < k → a + i < s.size ∧ 128 ≤ byteAt s (a + i)) (he : s.size ≤ a + k) : (uintR s a).2.1 = 3 ∧ (uintR s a).1 = 0 := by
  rw [go_run s a k (by omega) h, show 10 - k = (9 - k) + 1 by omega, uintGo_end he]
  exact ⟨rfl, rfl⟩
theorem next_bad {s : ByteArray} {a k : Nat} (hk : k < 10) (h : ∀ i, i < k → a + i < s.size ∧ 128 ≤ byteAt s (a + i)) (h1 : a + k < s.size) (h2 : byteAt s (a + k) < 128) (hb : (0 < k ∧ byteAt s (a + k) = 0) ∨ (k = 9 ∧ 1 < byteAt s (a + k))) : (uintR s a).2.1 = 4 ∧ (uintR s a).1 = 0 := by
  rw [go_run s a k (by omega) h, show 10 - k = (9 - k) + 1 by omega, uintGo_bad h1 h2 hb]
  exact ⟨rfl, rfl⟩
theorem next_ok {s : ByteArray} {a k : Nat} (hk : k < 10) (h : ∀ i, i < k → a + i < s.size ∧ 128 ≤ byteAt s (a + i)) (h1 : a + k < s.size) (h2 : byteAt s (a + k) < 128) (hb : ¬ ((0 < k ∧ byteAt s (a + k) = 0) ∨ (k = 9 ∧ 1 < byteAt s (a + k)))) :
    uintR s a = (((hiV s a (k + 1) : Nat) : Int), 0, a + k + 1) ∧ hiV s a (k + 1) < 18446744073709551616 := by
  have hp := valP_lt s a k
  have e : hiV s a (k + 1) = valP s a k + byteAt s (a + k) % 128 * 2 ^ (7 * k) := by rw [hiV_val]; rfl
  have hlt : valP s a k + byteAt s (a + k) % 128 * 2 ^ (7 * k) < 18446744073709551616 := by
    by_cases h9 : k = 9
    · subst h9
      have hm : byteAt s (a + 9) % 128 * 2 ^ (7 * 9) ≤ 1 * 2 ^ (7 * 9) := Nat.mul_le_mul_right _ (by omega)
      have e9 : (2 : Nat) ^ (7 * 9) = 9223372036854775808 := by decide
      rw [e9] at hp hm ⊢
      omega
    · have hp2 := valP_lt s a (k + 1)
      have hb2 : (2 : Nat) ^ (7 * (k + 1)) ≤ 2 ^ 63 := Nat.pow_le_pow_right (by omega) (by omega)
      unfold valP dig at hp2
      omega
  refine ⟨?_, by rw [e]; exact hlt⟩
  rw [go_run s a k (by omega) h, show 10 - k = (9 - k) + 1 by omega, uintGo_ok h1 h2 hb, rdStep_eq _ _ _ (byteAt_lt s _) hp hlt, e]
theorem byte_ext (s : ByteArray) (a i : Nat) (h : a ≤ s.size) : byteAt (s.extract a s.size) i = byteAt s (a + i) := by
  have hs : (s.extract a s.size).size = s.size - a := by simp
  by_cases hi : a + i < s.size
  · have h1 : i < (s.extract a s.size).size := by omega
    unfold byteAt
    rw [dif_pos h1, dif_pos hi]
    congr 1
    simp [ByteArray.getElem_extract]
  · have h1 : ¬ i < (s.extract a s.size).size := by omega
    unfold byteAt
    rw [dif_neg h1, dif_neg hi]
theorem zig_unzz (n : Int) (h : InU64 n) : zig n = if n % 2 = 1 then -(n / 2) - 1 else n / 2 := by
  obtain ⟨m, rfl⟩ : ∃ m : Nat, n = m := ⟨n.toNat, by have := h.1; omega⟩
  have h2 := h.2
  unfold zig
  rw [and_one m (by omega)]
  have e3 : wrap64 ((m : Int) / 2) = (m : Int) / 2 := by unfold wrap64; omega
  rw [e3]
  by_cases ho : m % 2 = 1
  · have e1 : wrap64 (-wrap64 ((m % 2 : Nat) : Int)) = -1 := by rw [ho]; unfold wrap64; omega
    rw [e1, xor_m _ (by unfold InInt; omega), if_pos (by omega)]
  · have e1 : wrap64 (-wrap64 ((m % 2 : Nat) : Int)) = 0 := by rw [show m % 2 = 0 by omega]; unfold wrap64; omega
    rw [e1, xor_z _ (by unfold InInt; omega), if_neg (by omega)]
end Go.Proofs.YtjflcpkmoamijaaGreatDoor
