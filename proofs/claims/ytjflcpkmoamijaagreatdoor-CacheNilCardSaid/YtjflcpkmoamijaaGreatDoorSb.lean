import Derived.Test.YtjflcpkmoamijaaGreatDoorLv
namespace Go.Proofs.YtjflcpkmoamijaaGreatDoor
open Go.RowKit
set_option linter.unusedVariables false
theorem toList_inj {s s' : ByteArray} (h : s.toList = s'.toList) : s = s' := by
  rw [Lib.toList_data, Lib.toList_data] at h
  obtain ⟨⟨s⟩⟩ := s
  obtain ⟨⟨s'⟩⟩ := s'
  simp at h
  rw [h]
theorem neq_blob (z x y z' x' y' : Int) (s s' : ByteArray) (w : World) : (binOp .neq 93 (.agg #[.int .i64 z, .int .i64 x, .int .i64 y, .string s]) (.agg #[.int .i64 z', .int .i64 x', .int .i64 y', .string s'])).run Tryz.prog w = .ok (.bool (!decide (z = z' ∧ x = x' ∧ y = y' ∧ s = s'))) w := by
  by_cases h1 : z = z'
  · subst h1
    by_cases h2 : x = x'
    · subst h2
      by_cases h3 : y = y'
      · subst h3
        by_cases h4 : s = s'
        · subst h4
          go_simp
        · have h5 : ¬ s.toList = s'.toList := fun e => h4 (toList_inj e)
          go_simp
      · go_simp
    · go_simp
  · go_simp
end Go.Proofs.YtjflcpkmoamijaaGreatDoor
