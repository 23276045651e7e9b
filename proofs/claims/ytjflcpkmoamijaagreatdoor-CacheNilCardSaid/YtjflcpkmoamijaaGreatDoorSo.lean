import Derived.Test.YtjflcpkmoamijaaGreatDoorTi2
import Derived.Test.YtjflcpkmoamijaaGreatDoorShelf
import Derived.Shelf.SlSortCmp.WholeK
namespace Go.Proofs.YtjflcpkmoamijaaGreatDoor
open Go.RowKit Go.Shelf Go.Sort
set_option linter.unusedVariables false
set_option linter.unusedSimpArgs false
set_option linter.unnecessarySimpa false

instance : Inhabited Bl := ⟨⟨⟨0, 0, 0⟩, ⟨#[]⟩⟩⟩
def cfB (x y : Bl) : Int := if x.t.less y.t then -1 else 1
theorem ltB (x y : Bl) : ltOf cfB x y = x.t.less y.t := by
  unfold ltOf cfB
  cases x.t.less y.t <;> simp
theorem swoB : SWO (ltOf cfB) where
  irrefl x := by rw [ltB]; exact less_irr _
  trans x y z h1 h2 := by rw [ltB] at *; exact less_trans h1 h2
  ntrans x y z h1 h2 := by
    rw [ltB] at *
    cases h : x.t.less z.t
    · rfl
    · exfalso
      have a1 : ¬ x.t.less y.t = true := by rw [h1]; simp
      have a2 : ¬ y.t.less z.t = true := by rw [h2]; simp
      rw [less_iff] at a1 a2 h
      omega
set_option maxHeartbeats 1000000 in
theorem tiles1 (x y : Bl) (W : World) : Calls Tryz.prog 60 #[x.v, y.v] W fun e w' => e = .returned (.int .i64 (cfB x y)) ∧ ∃ q os', w' = grow (W.drewN q) os' := by
  obtain ⟨⟨z, x, y0⟩, s⟩ := x
  obtain ⟨⟨z', x', y'⟩, s'⟩ := y
  unfold Bl.v
  simp only
  have hle : cfB ⟨⟨z, x, y0⟩, s⟩ ⟨⟨z', x', y'⟩, s'⟩ = if Tl.less ⟨z, x, y0⟩ ⟨z', x', y'⟩ then -1 else 1 := rfl
  rw [hle]
  have hcon := fun W' => Less_eq ⟨z, x, y0⟩ ⟨z', x', y'⟩ W'
  simp only [Tl.v] at hcon
  generalize Tl.less ⟨z, x, y0⟩ ⟨z', x', y'⟩ = b at *
  clear hle
  have HC := Lib.hid hcon
  clear hcon
  cases b
  all_goals
    go_enter Tryz.func60, Tryz.ntmps60
    go_wp2_with (go_at_call 61; refine (HC.out _).mono ?_; rintro e w' ⟨rfl, rfl⟩)
    go_ret
    exact ⟨rfl, 0, _, by rw [alloc_eq_grow, alloc_eq_grow, alloc_eq_grow, alloc_eq_grow, grow_grow, grow_grow, grow_grow]; rfl⟩
end Go.Proofs.YtjflcpkmoamijaaGreatDoor
