import Derived.Test.YtjflcpkmoamijaaGreatDoorBuild
import Derived.Test.YtjflcpkmoamijaaGreatDoorDev
namespace Go.Proofs.YtjflcpkmoamijaaGreatDoor
open Go.RowKit
set_option linter.unusedVariables false
set_option linter.unusedSimpArgs false
set_option linter.unnecessarySimpa false

/-- A block's cells. -/
def brow (b : Blk) : Array Value := (bvals b).toArray
def wrow (i : Nat) (b : Blk) : Array Value := (wvals (i, b)).toArray
theorem brow_size {b : Blk} (h : b.length = 64) : (brow b).size = 64 := by simp [brow, bvals, h]
theorem wrow_size {i : Nat} {b : Blk} (h : b.length = 64) : (wrow i b).size = 65 := by simp [wrow, wvals_len, h]
def zw : Array Value := (Value.int .i64 0 :: bvals zeroBlk).toArray
theorem zw_size : zw.size = 65 := rfl
theorem info_wr : (Tryz.prog.info? 110).map (fun i => (i.zero, i.size, i.bytes)) = some (some (.agg zw), 65, 72) := by kernel_rfl
theorem built_wr (parts : List (Nat × Value)) : Tryz.prog.built 110 parts = Instr.fill ((#[(0, 1), (1, 64)] : Array (Nat × Nat))[·]?) zw parts := by
  have h : ∀ parts, Tryz.prog.built 110 parts = Instr.fill ((#[(0, 1), (1, 64)] : Array (Nat × Nat))[·]?) zw parts := fun _ => by kernel_rfl
  exact h parts
theorem laid_wr (i : Nat) (b : Blk) (h : b.length = 64) : laid (laid zw.toList 0 [.int .i64 i]) 1 (bvals b) = wvals (i, b) := by
  have hl : (laid zw.toList 0 [.int .i64 i]).length = 65 := by simp [laid]; rw [zw_size]
  have h1 : (laid zw.toList 0 [.int .i64 i]).take 1 = [.int .i64 i] := by simp [laid]
  have h2 : (laid zw.toList 0 [.int .i64 i]).drop (1 + (bvals b).length) = [] := by rw [bvals_len, h]; exact List.drop_of_length_le (by omega)
  unfold laid at h1 h2 ⊢
  rw [h1, h2]
  simp [wvals]
theorem run_build_wr (w : World) (i : Nat) (b : Blk) (h : b.length = 64) :
    (Instr.build 110 #[(0, .int .i64 i), (1, .agg (brow b))]).run Tryz.prog w = .ok (.agg (wrow i b)) w := by
  refine run_build w _ _ _ ?_
  rw [built_wr]
  have hb := brow_size h
  rw [fill_step _ _ 0 (.int .i64 i) _ 0 rfl (by rw [zw_size]; simp [Value.cells]), fill_step _ _ 1 (.agg (brow b)) _ 1 (by simp [Value.cells, hb]) (by simp only [Value.cells, hb, List.size_toArray, laid, List.length_append, List.length_take, List.length_drop, Array.length_toList, zw_size]; simp)]
  simp only [Instr.fill]
  have := laid_wr i b h
  simp only [Value.cells, brow] at this ⊢
  rw [this]; rfl
theorem run_bs_wr (w : World) (i : Nat) (b : Blk) (h : b.length = 64) :
    (Instr.buildSlice 69 1 #[(0, .agg (wrow i b))]).run Tryz.prog w = .ok (.slice (some ⟨w.heap.size, 0, none⟩) 1 1) (w.alloc (.cells (wrow i b) 110)) := by
  obtain ⟨i0, hi, hzz⟩ := Option.map_eq_some_iff.1 info_wr
  simp only [Prod.mk.injEq] at hzz
  obtain ⟨hz0, hz1, hz2⟩ := hzz
  have hw := wrow_size (i := i) h
  have hm : (Array.range (1 * 65)).map (zw[· % 65]!) = madeCells zw 65 := by unfold madeCells; rw [zw_size]
  simp only [Instr.buildSlice, Sem.run_bind, run_underlying Tryz.underlying69, Result.andThen_ok, sizeOf, typeInfo, zeroValue, hi, hz0, hz1, Sem.run_pure]
  simp [Value.cells, hz1, hz0, zw_size, hi, Sem.run_bind, typeInfo]
  rw [fill_step _ _ 0 (.agg (wrow i b)) _ 0 (by simp [Value.cells, hw]) (by simp [Value.cells, hw])]
  simp only [Instr.fill, Value.cells, laid]
  simp [newRow]
  rw [List.drop_of_length_le (by simp [hw])]
  simp
end Go.Proofs.YtjflcpkmoamijaaGreatDoor
