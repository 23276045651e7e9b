import Derived.Test.YtjflcpkmoamijaaGreatDoorTg
namespace Go.Proofs.YtjflcpkmoamijaaGreatDoor
open Go.RowKit
set_option linter.unusedVariables false
set_option linter.unusedSimpArgs false
set_option linter.unnecessarySimpa false

set_option maxHeartbeats 1000000 in
theorem Less_eq (a b : Tl) (w : World) :
    Calls Tryz.prog 61 #[a.v, b.v] w fun e w' => e = .returned (.bool (a.less b)) ∧ w' = (w.alloc (.cells #[.int .i64 a.z, .int .i64 a.x, .int .i64 a.y] 91)).alloc (.cells #[.int .i64 b.z, .int .i64 b.x, .int .i64 b.y] 91) := by
  obtain ⟨z, x, y⟩ := a
  obtain ⟨z', x', y'⟩ := b
  unfold Tl.v
  simp only
  by_cases h1 : z = z'
  · by_cases h2 : y = y'
    · by_cases h3 : x = x'
      · have hl : Tl.less ⟨z, x, y⟩ ⟨z', x', y'⟩ = false := by simp [Tl.less, h1, h2, h3]
        rw [hl]
        subst h1; subst h2; subst h3
        clear hl
        go_enter Tryz.func61, Tryz.ntmps61
        go_wp2
        go_ret
        exact ⟨rfl, rfl⟩
      · have hl : Tl.less ⟨z, x, y⟩ ⟨z', x', y'⟩ = decide (x < x') := by simp [Tl.less, h1, h2, h3]
        rw [hl]
        subst h1; subst h2
        clear hl
        have q3 : (x == x') = false := by simpa using h3
        go_enter Tryz.func61, Tryz.ntmps61
        go_wp2
        go_ret
        exact ⟨rfl, rfl⟩
    · have hl : Tl.less ⟨z, x, y⟩ ⟨z', x', y'⟩ = decide (y < y') := by simp [Tl.less, h1, h2]
      rw [hl]
      subst h1
      clear hl
      have q2 : (y == y') = false := by simpa using h2
      have q4 : (y != y') = true := by simpa using h2
      go_enter Tryz.func61, Tryz.ntmps61
      go_wp2
      go_ret
      exact ⟨rfl, rfl⟩
  · have hl : Tl.less ⟨z, x, y⟩ ⟨z', x', y'⟩ = decide (z < z') := by simp [Tl.less, h1]
    rw [hl]
    clear hl
    have q1 : (z == z') = false := by simpa using h1
    have q4 : (z != z') = true := by simpa using h1
    go_enter Tryz.func61, Tryz.ntmps61
    go_wp2
    go_ret
    exact ⟨rfl, rfl⟩
theorem Less_any (a b : Tl) (w : World) :
    Calls Tryz.prog 61 #[a.v, b.v] w fun e w' => e = .returned (.bool (a.less b)) ∧ Below w.heap.size w w' := by
  refine (Less_eq a b w).mono ?_
  rintro e w' ⟨rfl, rfl⟩
  exact ⟨rfl, ((Below.refl w.heap.size w).alloc (Nat.le_refl _) _).alloc (by simp) _⟩
end Go.Proofs.YtjflcpkmoamijaaGreatDoor
