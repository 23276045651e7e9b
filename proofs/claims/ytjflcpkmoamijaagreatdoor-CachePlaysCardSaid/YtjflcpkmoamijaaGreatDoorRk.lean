import Derived.Test.YtjflcpkmoamijaaGreatDoorRj
namespace Go.Proofs.YtjflcpkmoamijaaGreatDoor
open Go.RowKit
set_option linter.unusedVariables false
set_option linter.unusedSimpArgs false
set_option linter.unnecessarySimpa false

/-! ### The reference's tiles -/
theorem two_pow (i : Nat) (h : i ≤ 7) : (2 : Int) ^ i ≤ 128 ∧ 1 ≤ (2 : Int) ^ i := by
  rcases (by omega : i = 0 ∨ i = 1 ∨ i = 2 ∨ i = 3 ∨ i = 4 ∨ i = 5 ∨ i = 6 ∨ i = 7) with rfl | rfl | rfl | rfl | rfl | rfl | rfl | rfl <;> decide
set_option maxHeartbeats 400000 in
theorem RPower_any (z : Nat) (w : World) (hz : z ≤ 7) :
    Calls Tryz.prog 138 #[.int .i64 z] w fun e w' => e = .returned (.int .i64 ((2 : Int) ^ z)) ∧ w' = w := by
  go_enter Tryz.func138, Tryz.ntmps138
  go_wp2_with fail
  go_loopw [3, 4] (fun nv iv wr => ∃ i : Nat, iv = .int .i64 i ∧ i ≤ z ∧ nv = .int .i64 ((2 : Int) ^ i) ∧ wr = w) (fun _ iv _ => z - (intOf iv).toNat)
  case atStart => exact ⟨0, rfl, by omega, rfl, rfl⟩
  case round =>
    obtain ⟨i, rfl, hi, rfl, hw⟩ := hrel
    subst hw
    by_cases hic : i < z
    · have hic' : (i : Int) < (z : Int) := by omega
      have hp := two_pow i (by omega)
      have hs : (2 : Int) ^ (i + 1) = 2 * (2 : Int) ^ i := by rw [Int.pow_succ]; omega
      have HS := Lib.hid hs
      clear hs
      generalize hpp : (2 : Int) ^ i = p at *
      clear hpp
      have hw2 : wrap64 (2 * p) = 2 * p := by unfold wrap64; omega
      go_wp2_with fail
      go_roundw
      case rel => exact ⟨i + 1, by go_num, by omega, by rw [HS.out], by first | rfl | trivial⟩
      case measure => simp [intOf]; omega
    · have hic' : ¬ (i : Int) < (z : Int) := by omega
      obtain rfl : i = z := by omega
      go_wp2_with fail
      go_ret
      exact ⟨rfl, rfl⟩
set_option maxHeartbeats 2000000 in
theorem RCheck_any (t : Tl) (w : World) :
    Calls Tryz.prog 115 #[t.v] w fun e w' => e = .returned (.int .i64 (if t.ok then 0 else 16)) ∧ Below w.heap.size w w' := by
  obtain ⟨z, x, y⟩ := t
  unfold Tl.v
  simp only
  have fin : ∀ (z : Int) (n : Nat), Below w.heap.size w ((w.alloc (.cells #[.int .i64 z, .int .i64 x, .int .i64 y] 91)).drewN n) := by
    intro z n
    have hb := (Below.refl w.heap.size w).alloc (Nat.le_refl _) (.cells #[.int .i64 z, .int .i64 x, .int .i64 y] 91)
    exact ⟨hb.os, hb.tape, hb.output, hb.size, hb.block⟩
  have FIN := Lib.hid fin
  clear fin
  by_cases h1 : z < 0
  · have hno : Tl.ok ⟨z, x, y⟩ = false := by simp [Tl.ok]; omega
    rw [hno]
    clear hno
    go_enter Tryz.func115, Tryz.ntmps115
    go_wp2
    go_quiet (fail)
    go_wp2
    go_ret
    exact ⟨rfl, FIN.out _ _⟩
  by_cases h2 : 7 < z
  · have hno : Tl.ok ⟨z, x, y⟩ = false := by simp [Tl.ok]; omega
    rw [hno]
    clear hno
    go_enter Tryz.func115, Tryz.ntmps115
    go_wp2
    go_quiet (fail)
    go_wp2
    go_ret
    exact ⟨rfl, FIN.out _ _⟩
  obtain ⟨n, rfl⟩ := Int.eq_ofNat_of_zero_le (by omega : 0 ≤ z)
  have hs := fun w => RPower_any n w (by omega)
  have hok : Tl.ok ⟨n, x, y⟩ = decide (0 ≤ x ∧ x < 2 ^ n ∧ 0 ≤ y ∧ y < 2 ^ n) := by simp [Tl.ok]; intros; omega
  rw [hok]
  clear hok
  generalize (2 : Int) ^ n = p at *
  by_cases h3 : x < 0
  · have hno : decide (0 ≤ x ∧ x < p ∧ 0 ≤ y ∧ y < p) = false := by simp; omega
    rw [hno]
    clear hno
    go_enter Tryz.func115, Tryz.ntmps115
    go_wp2
    go_quiet (exact Calls.quiet_of_same (hs _))
    go_wp2
    go_ret
    exact ⟨rfl, FIN.out _ _⟩
  by_cases h5 : y < 0
  · have hno : decide (0 ≤ x ∧ x < p ∧ 0 ≤ y ∧ y < p) = false := by simp; omega
    rw [hno]
    clear hno
    go_enter Tryz.func115, Tryz.ntmps115
    go_wp2
    go_quiet (exact Calls.quiet_of_same (hs _))
    go_wp2
    go_ret
    exact ⟨rfl, FIN.out _ _⟩
  by_cases h4 : p ≤ x
  · have hno : decide (0 ≤ x ∧ x < p ∧ 0 ≤ y ∧ y < p) = false := by simp; omega
    rw [hno]
    clear hno
    go_enter Tryz.func115, Tryz.ntmps115
    go_wp2
    go_quiet (exact Calls.quiet_of_same (hs _))
    go_wp2
    go_ret
    exact ⟨rfl, FIN.out _ _⟩
  by_cases h6 : p ≤ y
  · have hno : decide (0 ≤ x ∧ x < p ∧ 0 ≤ y ∧ y < p) = false := by simp; omega
    rw [hno]
    clear hno
    go_enter Tryz.func115, Tryz.ntmps115
    go_wp2
    go_quiet (exact Calls.quiet_of_same (hs _))
    go_wp2
    go_ret
    exact ⟨rfl, FIN.out _ _⟩
  have hno : decide (0 ≤ x ∧ x < p ∧ 0 ≤ y ∧ y < p) = true := by simp; omega
  rw [hno]
  clear hno
  go_enter Tryz.func115, Tryz.ntmps115
  go_wp2
  go_quiet (exact Calls.quiet_of_same (hs _))
  go_wp2
  go_ret
  exact ⟨rfl, FIN.out _ _⟩

set_option maxHeartbeats 1000000 in
theorem RLess_eq (a b : Tl) (w : World) :
    Calls Tryz.prog 88 #[a.v, b.v] w fun e w' => e = .returned (.bool (a.less b)) ∧ w' = (w.alloc (.cells #[.int .i64 a.z, .int .i64 a.x, .int .i64 a.y] 91)).alloc (.cells #[.int .i64 b.z, .int .i64 b.x, .int .i64 b.y] 91) := by
  obtain ⟨z, x, y⟩ := a
  obtain ⟨z', x', y'⟩ := b
  unfold Tl.v
  simp only
  by_cases h1 : z = z'
  · by_cases h2 : y = y'
    · by_cases h3 : x = x'
      · have hl : Tl.less ⟨z, x, y⟩ ⟨z', x', y'⟩ = false := by simp [Tl.less, h1, h2, h3]
        rw [hl]
        subst h1; subst h2; subst h3
        clear hl
        go_enter Tryz.func88, Tryz.ntmps88
        go_wp2
        go_ret
        exact ⟨rfl, rfl⟩
      · have hl : Tl.less ⟨z, x, y⟩ ⟨z', x', y'⟩ = decide (x < x') := by simp [Tl.less, h1, h2, h3]
        rw [hl]
        subst h1; subst h2
        clear hl
        have q3 : (x == x') = false := by simpa using h3
        go_enter Tryz.func88, Tryz.ntmps88
        go_wp2
        go_ret
        exact ⟨rfl, rfl⟩
    · have hl : Tl.less ⟨z, x, y⟩ ⟨z', x', y'⟩ = decide (y < y') := by simp [Tl.less, h1, h2]
      rw [hl]
      subst h1
      clear hl
      have q2 : (y == y') = false := by simpa using h2
      have q4 : (y != y') = true := by simpa using h2
      go_enter Tryz.func88, Tryz.ntmps88
      go_wp2
      go_ret
      exact ⟨rfl, rfl⟩
  · have hl : Tl.less ⟨z, x, y⟩ ⟨z', x', y'⟩ = decide (z < z') := by simp [Tl.less, h1]
    rw [hl]
    clear hl
    have q1 : (z == z') = false := by simpa using h1
    have q4 : (z != z') = true := by simpa using h1
    go_enter Tryz.func88, Tryz.ntmps88
    go_wp2
    go_ret
    exact ⟨rfl, rfl⟩
theorem RLess_any (a b : Tl) (w : World) :
    Calls Tryz.prog 88 #[a.v, b.v] w fun e w' => e = .returned (.bool (a.less b)) ∧ Below w.heap.size w w' := by
  refine (RLess_eq a b w).mono ?_
  rintro e w' ⟨rfl, rfl⟩
  exact ⟨rfl, ((Below.refl w.heap.size w).alloc (Nat.le_refl _) _).alloc (by simp) _⟩

theorem RValid_any (t : Tl) (w : World) : Calls Tryz.prog 87 #[t.v] w fun e w' => e = .returned (.bool t.ok) ∧ Below w.heap.size w w' := by
  have hc : Hid (∀ w, Calls Tryz.prog 115 #[t.v] w fun e w' => e = .returned (.int .i64 (if t.ok then 0 else 16)) ∧ Below w.heap.size w w') := fun w => RCheck_any t w
  obtain ⟨z, x, y⟩ := t
  unfold Tl.v at *
  simp only at hc ⊢
  rcases hok : (⟨z, x, y⟩ : Tl).ok with _ | _
  all_goals
    rw [hok] at hc
    simp only [if_true, if_false, Bool.false_eq_true] at hc
    go_enter Tryz.func87, Tryz.ntmps87
    go_wp2_with fail
    refine (hc.out _).mono ?_
    rintro e w2 ⟨rfl, b2⟩
    have B2 := Lib.hid (one_box w w2 _ _ b2).2
    clear b2
    go_wp2_with fail
    go_ret
    exact ⟨rfl, B2.out⟩
end Go.Proofs.YtjflcpkmoamijaaGreatDoor
