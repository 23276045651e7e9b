import Derived.Test.YtjflcpkmoamijaaGreatDoorBase
import Derived.BigQuiet
namespace Go.Proofs.YtjflcpkmoamijaaGreatDoor
open Go.RowKit
set_option linter.unusedVariables false
set_option linter.unusedSimpArgs false
set_option linter.unnecessarySimpa false

structure Tl where
  z : Int
  x : Int
  y : Int
  deriving DecidableEq
def Tl.cells (t : Tl) : List Value := [.int .i64 t.z, .int .i64 t.x, .int .i64 t.y]
def Tl.v (t : Tl) : Value := .agg #[.int .i64 t.z, .int .i64 t.x, .int .i64 t.y]
def Tl.ok (t : Tl) : Bool := decide (0 ≤ t.z ∧ t.z ≤ 7 ∧ 0 ≤ t.x ∧ t.x < 2 ^ t.z.toNat ∧ 0 ≤ t.y ∧ t.y < 2 ^ t.z.toNat)
def Tl.less (a b : Tl) : Bool := if a = b then false else if a.z ≠ b.z then decide (a.z < b.z) else if a.y ≠ b.y then decide (a.y < b.y) else decide (a.x < b.x)
set_option maxHeartbeats 400000 in
theorem side_any (z : Nat) (w : World) (hz : z ≤ 7) :
    Calls Tryz.prog 111 #[.int .i64 z] w fun e w' => e = .returned (.int .i64 ((2 : Int) ^ z)) ∧ w' = w := by
  rcases (by omega : z = 0 ∨ z = 1 ∨ z = 2 ∨ z = 3 ∨ z = 4 ∨ z = 5 ∨ z = 6 ∨ z = 7) with rfl | rfl | rfl | rfl | rfl | rfl | rfl | rfl
  all_goals
    go_enter Tryz.func111, Tryz.ntmps111
    go_wp2
    go_ret
    exact ⟨rfl, rfl⟩
set_option maxHeartbeats 2000000 in
theorem TCheck_any (t : Tl) (w : World) :
    Calls Tryz.prog 80 #[t.v] w fun e w' => e = .returned (.int .i64 (if t.ok then 0 else 16)) ∧ Below w.heap.size w w' := by
  obtain ⟨z, x, y⟩ := t
  unfold Tl.v
  simp only
  have fin : ∀ (z : Int) (n : Nat), Below w.heap.size w ((w.alloc (.cells #[.int .i64 z, .int .i64 x, .int .i64 y] 91)).drewN n) := by
    intro z n
    have hb := (Below.refl w.heap.size w).alloc (Nat.le_refl _) (.cells #[.int .i64 z, .int .i64 x, .int .i64 y] 91)
    exact ⟨hb.os, hb.tape, hb.output, hb.size, hb.block⟩
  have FIN := Lib.hid fin
  clear fin
  by_cases h1 : z < 0
  · have hno : Tl.ok ⟨z, x, y⟩ = false := by simp [Tl.ok]; omega
    rw [hno]
    clear hno
    go_enter Tryz.func80, Tryz.ntmps80
    go_wp2
    go_quiet (fail)
    go_wp2
    go_ret
    exact ⟨rfl, FIN.out _ _⟩
  by_cases h2 : 7 < z
  · have hno : Tl.ok ⟨z, x, y⟩ = false := by simp [Tl.ok]; omega
    rw [hno]
    clear hno
    go_enter Tryz.func80, Tryz.ntmps80
    go_wp2
    go_quiet (fail)
    go_wp2
    go_ret
    exact ⟨rfl, FIN.out _ _⟩
  obtain ⟨n, rfl⟩ := Int.eq_ofNat_of_zero_le (by omega : 0 ≤ z)
  have hs := fun w => side_any n w (by omega)
  have hok : Tl.ok ⟨n, x, y⟩ = decide (0 ≤ x ∧ x < 2 ^ n ∧ 0 ≤ y ∧ y < 2 ^ n) := by simp [Tl.ok]; intros; omega
  rw [hok]
  clear hok
  generalize (2 : Int) ^ n = p at *
  by_cases h3 : x < 0
  · have hno : decide (0 ≤ x ∧ x < p ∧ 0 ≤ y ∧ y < p) = false := by simp; omega
    rw [hno]
    clear hno
    go_enter Tryz.func80, Tryz.ntmps80
    go_wp2
    go_quiet (exact Calls.quiet_of_same (hs _))
    go_wp2
    go_ret
    exact ⟨rfl, FIN.out _ _⟩
  by_cases h4 : p ≤ x
  · have hno : decide (0 ≤ x ∧ x < p ∧ 0 ≤ y ∧ y < p) = false := by simp; omega
    rw [hno]
    clear hno
    go_enter Tryz.func80, Tryz.ntmps80
    go_wp2
    go_quiet (exact Calls.quiet_of_same (hs _))
    go_wp2
    go_ret
    exact ⟨rfl, FIN.out _ _⟩
  by_cases h5 : y < 0
  · have hno : decide (0 ≤ x ∧ x < p ∧ 0 ≤ y ∧ y < p) = false := by simp; omega
    rw [hno]
    clear hno
    go_enter Tryz.func80, Tryz.ntmps80
    go_wp2
    go_quiet (exact Calls.quiet_of_same (hs _))
    go_wp2
    go_ret
    exact ⟨rfl, FIN.out _ _⟩
  by_cases h6 : p ≤ y
  · have hno : decide (0 ≤ x ∧ x < p ∧ 0 ≤ y ∧ y < p) = false := by simp; omega
    rw [hno]
    clear hno
    go_enter Tryz.func80, Tryz.ntmps80
    go_wp2
    go_quiet (exact Calls.quiet_of_same (hs _))
    go_wp2
    go_ret
    exact ⟨rfl, FIN.out _ _⟩
  have hno : decide (0 ≤ x ∧ x < p ∧ 0 ≤ y ∧ y < p) = true := by simp; omega
  rw [hno]
  clear hno
  go_enter Tryz.func80, Tryz.ntmps80
  go_wp2
  go_quiet (exact Calls.quiet_of_same (hs _))
  go_wp2
  go_ret
  exact ⟨rfl, FIN.out _ _⟩
end Go.Proofs.YtjflcpkmoamijaaGreatDoor
