import Derived.Test.YtjflcpkmoamijaaGreatDoorJn4
import Derived.Recover
namespace Go.Proofs.YtjflcpkmoamijaaGreatDoor
open Go.RowKit
set_option linter.unusedVariables false
set_option linter.unusedSimpArgs false
set_option linter.unnecessarySimpa false

def CatchPost (jc ec : Nat) (w w' : World) : Prop := Cell1 w' jc 28 (.pointer none) ∧ Cell1 w' ec 26 (.int .i64 4) ∧ Fr w w' (fun k => k = jc ∨ k = ec)
theorem assert_bad (W : World) : (Instr.typeAssert (.iface 75 (.agg #[])) 20 75 true).run Tryz.prog W = .ok (.tuple #[.agg #[], .bool true]) W := by kernel_rfl
set_option maxHeartbeats 400000 in
set_option maxRecDepth 100000 in
theorem catch_panicking (jc ec : Nat) (vj : Value) (ve : Value) (w : World) (hj : Cell1 w jc 28 vj) (he : Cell1 w ec 26 ve) (hne : jc ≠ ec) :
    CallsD Tryz.prog 39 #[.pointer (some ⟨jc, 0, none⟩), .pointer (some ⟨ec, 0, none⟩)] (.panicking badForm) w fun e u' w' =>
      e = .returned (.tuple #[]) ∧ u' = .panicking [{ v := .iface 75 (.agg #[]), recovered := true }] ∧ CatchPost jc ec w w' := by
  have c1 := hj.c
  have f1 := hj.f
  have c2 := he.c
  have f2 := he.f
  have l1 := hj.lt
  have l2 := he.lt
  have HJ := Lib.hid hj
  have HE := Lib.hid he
  clear hj he
  refine callsD_of_wpS Tryz.func39 rfl fun c₀ cs hu => ?_
  apply wpS_seq
  apply wpS_region
  simp [wpOpsS, go_sem, recoverD, hu, badForm, Tryz.ntmps39, Exit.thenS]
  refine wpS_of_wp ?_
  have e : ∀ A B V : Value, (#[A, B] : Array Value) ++ (Array.replicate 9 undef).setIfInBounds 3 V = #[A, B, undef, undef, undef, V, undef, undef, undef, undef, undef] := fun _ _ _ => rfl
  rw [e]
  clear e hu
  have hta := assert_bad
  go_wp2_with fail
  have h1 : CatchPost jc ec w (((w.setCell ⟨jc, 0, none⟩ (.pointer none)).setCell ⟨ec, 0, none⟩ (.int .i64 4)).alloc (.cells #[] 75)) := by
    refine ⟨?_, ?_, ?_⟩
    · exact ((HJ.out.set _).other ⟨ec, 0, none⟩ (fun e => hne e.symm) _).alloc _
    · exact ((HE.out.other ⟨jc, 0, none⟩ hne _).set _).alloc _
    · exact (((Fr.refl _ _).setCell _ _ (fun _ => .inl rfl)).setCell _ _ (fun _ => .inr rfl)).alloc _
  have H1 := Lib.hid h1
  clear h1
  simp [bodyPostS, results, Tryz.results39]
  exact H1.out
set_option maxHeartbeats 400000 in
theorem catch_idle (jc ec : Nat) (w : World) :
    CallsD Tryz.prog 39 #[.pointer (some ⟨jc, 0, none⟩), .pointer (some ⟨ec, 0, none⟩)] .returning w fun e u' w' =>
      e = .returned (.tuple #[]) ∧ u' = .returning ∧ w' = w := by
  refine callsD_of_wpS Tryz.func39 rfl fun c₀ cs hu => ?_
  apply wpS_seq
  apply wpS_region
  simp [wpOpsS, go_sem, recoverD, hu, Tryz.ntmps39, Exit.thenS]
  refine wpS_of_wp ?_
  go_wp2_with fail
  cases c₀
  simp_all [bodyPostS, results, Tryz.results39]
end Go.Proofs.YtjflcpkmoamijaaGreatDoor
