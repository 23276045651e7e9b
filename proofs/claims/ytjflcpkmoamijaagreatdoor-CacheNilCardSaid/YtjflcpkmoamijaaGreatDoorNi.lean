import Derived.Test.YtjflcpkmoamijaaGreatDoorLw
namespace Go.Proofs.YtjflcpkmoamijaaGreatDoor
open Go.RowKit
set_option linter.unusedVariables false
set_option linter.unusedSimpArgs false
set_option linter.unnecessarySimpa false

set_option maxHeartbeats 1000000 in
set_option maxRecDepth 100000 in
theorem CacheNil_any (ver : Int) (v : Value) (w : World) : Calls Tryz.prog 6 #[.int .i64 ver, v] w fun e w' => e = .returned (.bool true) ∧ Below w.heap.size w w' := by
  go_enter Tryz.func6, Tryz.ntmps6
  go_wp2_with fail
  refine (COpen_nil w).mono ?_
  rintro e w2 ⟨rfl, b2⟩
  have B2 := Lib.hid b2
  clear b2
  go_wp2_with (first
    | (go_at_call 27; refine (Version_nil _).mono ?_; rintro e w3 ⟨rfl, rfl⟩)
    | (go_at_call 28; refine (Tiles_nil _).mono ?_; rintro e w3 ⟨rfl, rfl⟩)
    | (go_at_call 22; refine (Put_nil _ _ _).mono ?_; rintro e w3 ⟨rfl, rfl⟩)
    | (go_at_call 24; refine (Compact_nil _).mono ?_; rintro e w3 ⟨rfl, rfl⟩)
    | (go_at_call 9; refine (lives_any _).mono ?_; rintro e w3 ⟨rfl, b3⟩; have B3 := Lib.hid (B2.out.trans (b3.mono B2.out.size)); clear b3))
  go_ret
  exact ⟨rfl, B3.out⟩
end Go.Proofs.YtjflcpkmoamijaaGreatDoor
