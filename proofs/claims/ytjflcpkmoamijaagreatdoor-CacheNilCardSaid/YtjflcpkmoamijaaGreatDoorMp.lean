import Derived.Test.YtjflcpkmoamijaaGreatDoorDc
import Derived.Maps.RangeWalk
import Derived.DeepKeys4
namespace Go.Proofs.YtjflcpkmoamijaaGreatDoor
open Go.RowKit
open Go.Maps (Keyed)
set_option linter.unusedVariables false
set_option linter.unusedSimpArgs false
set_option linter.unnecessarySimpa false

theorem klaw : Keyed Tryz.prog 91 :=
  Keyed.of_law (deep_law_laid (by kernel_rfl) (m := 5) (by omega) (of_decide_eq_true (by kernel_rfl)) (by kernel_rfl) (by kernel_rfl))
def Tl.fits (t : Tl) : Prop := InInt t.z ∧ InInt t.x ∧ InInt t.y
def Tl.lits (t : Tl) : List Lit := [.int .i64 t.z, .int .i64 t.x, .int .i64 t.y]
def Tl.key (t : Tl) : Lit := .string (keyBytes t.lits)
theorem wf_int {n : Int} (h : InInt n) : (Lit.int .i64 n).wf = true := by
  unfold InInt at h
  have h1 : IntKind.i64.min = -9223372036854775808 := by decide
  have h2 : IntKind.i64.max = 9223372036854775807 := by decide
  simp [Lit.wf, h1, h2]
  omega
set_option maxRecDepth 100000 in
theorem key_of (t : Tl) (h : t.fits) : keyOf Tryz.prog 91 t.v = some t.key := by
  have w1 := wf_int h.1
  have w2 := wf_int h.2.1
  have w3 := wf_int h.2.2
  have hkt : Tryz.prog.keyType 91 = true := by kernel_rfl
  have hc : Tryz.prog.cellsOf 91 = 3 := by kernel_rfl
  have hc3 : Tryz.prog.cellsOf 3 = 1 := by kernel_rfl
  have hsz : ∃ m, Tryz.prog.types.size = m + 1 := ⟨Tryz.prog.types.size - 1, by kernel_rfl⟩
  obtain ⟨m, hm⟩ := hsz
  unfold keyOf
  rw [Tryz.underlying91]
  simp only []
  rw [if_pos (by simp [hkt, Value.formed, Tl.v, Tryz.underlying91, hc]), hm]
  unfold Program.keyLits
  rw [Tryz.underlying91]
  simp only [Tl.v, Value.cells]
  simp [hc, List.mapM_cons, Program.keyLits, Tryz.underlying3, hc3, w1, w2, w3, Tl.key, Tl.lits]
end Go.Proofs.YtjflcpkmoamijaaGreatDoor
