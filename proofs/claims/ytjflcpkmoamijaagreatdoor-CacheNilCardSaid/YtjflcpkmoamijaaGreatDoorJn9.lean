import Derived.Test.YtjflcpkmoamijaaGreatDoorJn8
namespace Go.Proofs.YtjflcpkmoamijaaGreatDoor
open Go.RowKit
set_option linter.unusedVariables false
set_option linter.unusedSimpArgs false
set_option linter.unnecessarySimpa false

def ClonePost (l : List ByteArray) (w : World) (e : Ending) (w' : World) : Prop := ∃ v', e = .returned v' ∧ w'.ownsRow w.heap.size 9 1 v' l.length (l.map .string) ∧ Below w.heap.size w w'
theorem clone_any (v : Value) (l : List ByteArray) (w : World) (B : Nat) (h : w.ownsRow B 9 1 v l.length (l.map .string)) (hl : l.length ≤ 1000000) :
    Calls Tryz.prog 62 #[v] w (ClonePost l w) := by
  have h0 := h
  rcases h.2 with ⟨rfl, hn⟩ | ⟨g, cap, cur, rfl, _⟩
  · obtain rfl : l = [] := List.eq_nil_of_length_eq_zero hn
    refine (Tryz.slices_Clone_string_nil 0 0 w).mono ?_
    rintro e w' ⟨rfl, rfl⟩
    exact ⟨_, rfl, World.ownsRow_nil _ _ _ _, Below.refl _ _⟩
  · refine (Tryz.slices_Clone_string g 0 l.length cap l w (Nat.le_refl _) (by omega) ?_).mono ?_
    · intro j hj
      have := h0.cellAt j (by omega)
      rw [Nat.zero_add, this]
      simp [List.getD, List.getElem?_eq_getElem hj]
    · rintro e w' ⟨v', rfl, ho, _, hb⟩
      rw [List.take_length] at ho
      exact ⟨v', rfl, ho, hb⟩
set_option maxHeartbeats 400000 in
theorem JRecords_any (jb db B ep u : Nat) (vr : Value) (l : List ByteArray) (w : World) (hj : JIs w B jb db vr ep u l) (hl : l.length ≤ 1000000) :
    Calls Tryz.prog 29 #[.pointer (some ⟨jb, 0, none⟩)] w (ClonePost l w) := by
  have c3 := hj.c3
  have hc := Lib.hid (clone_any vr l w B hj.hr hl)
  clear hj
  go_enter Tryz.func29, Tryz.ntmps29
  go_wp2_with fail
  refine hc.out.mono ?_
  rintro e w2 ⟨v', rfl, ho, hb⟩
  have HO := Lib.hid ho
  have HB := Lib.hid hb
  clear ho hb
  go_wp2_with fail
  go_ret
  exact ⟨v', rfl, HO.out, HB.out⟩
end Go.Proofs.YtjflcpkmoamijaaGreatDoor
