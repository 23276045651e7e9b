import Derived.Test.YtjflcpkmoamijaaGreatDoorGa
import Derived.Deep.MidRow
import Derived.Laws.MakeOwn
import Derived.BigRegion
import Derived.Deep.AppendLies
import Derived.Laws.Tables
import Derived.Test.YtjflcpkmoamijaaGreatDoorWLast
import Derived.Lib.BufferWrite
import Derived.Lib.SlBuf
import Derived.Deep.WholeRow
namespace Go.Proofs.YtjflcpkmoamijaaGreatDoor
open Go.RowKit
set_option linter.unusedVariables false
set_option linter.unusedSimpArgs false
set_option linter.unnecessarySimpa false

/-! ### A device -/
abbrev Blk := List UInt8
structure Dev where
  first : List Blk
  log : List (Nat × Blk)
  now : List Blk
  lim : Bool
  left : Nat
structure DRef where
  b : Nat
  bf : Nat
  bn : Nat
  vl : Value
def wvals (x : Nat × Blk) : List Value := .int .i64 x.1 :: bvals x.2
def rowOf (l : List Blk) : Array Value := (l.flatMap bvals).toArray
structure Dev.Ok (D : Dev) : Prop where
  len : D.first.length = D.now.length
  pos : 1 ≤ D.now.length
  top : D.now.length ≤ 65536
  f64 : ∀ x ∈ D.first, x.length = 64
  n64 : ∀ x ∈ D.now, x.length = 64
  l64 : ∀ x ∈ D.log, x.2.length = 64
  lat : ∀ x ∈ D.log, x.1 < D.now.length
  lft : D.left < 9223372036854775808
structure DevIs (w : World) (r : DRef) (D : Dev) : Prop where
  ok : D.Ok
  hb : w.heap[r.b]? = some (.cells #[.slice (some ⟨r.bf, 0, none⟩) D.now.length D.now.length, r.vl, .slice (some ⟨r.bn, 0, none⟩) D.now.length D.now.length, .bool D.lim, .int .i64 D.left] 71 (0, 0))
  hf : w.heap[r.bf]? = some (.cells (rowOf D.first) 108 (0, 0))
  hn : w.heap[r.bn]? = some (.cells (rowOf D.now) 108 (0, 0))
  hl : w.ownsRow 0 110 65 r.vl D.log.length (D.log.flatMap wvals)
  ne : r.bf ≠ r.bn
/-- The blocks of a device. -/
def DRef.foot (r : DRef) (k : Nat) : Prop := k = r.b ∨ k = r.bf ∨ k = r.bn ∨ r.vl.ownBlock = some k
theorem bvals_len (l : List UInt8) : (bvals l).length = l.length := by simp [bvals]
theorem wvals_len (x : Nat × Blk) : (wvals x).length = x.2.length + 1 := by simp [wvals, bvals]
theorem DevIs.c0 {w : World} {r : DRef} {D : Dev} (h : DevIs w r D) : w.cell? ⟨r.b, 0, none⟩ = some (.slice (some ⟨r.bf, 0, none⟩) D.now.length D.now.length) := cell_of_row w _ 0 _ _ _ h.hb
theorem DevIs.c1 {w : World} {r : DRef} {D : Dev} (h : DevIs w r D) : w.cell? ⟨r.b, 1, none⟩ = some r.vl := cell_of_row w _ 1 _ _ _ h.hb
theorem DevIs.c2 {w : World} {r : DRef} {D : Dev} (h : DevIs w r D) : w.cell? ⟨r.b, 2, none⟩ = some (.slice (some ⟨r.bn, 0, none⟩) D.now.length D.now.length) := cell_of_row w _ 2 _ _ _ h.hb
theorem DevIs.c3 {w : World} {r : DRef} {D : Dev} (h : DevIs w r D) : w.cell? ⟨r.b, 3, none⟩ = some (.bool D.lim) := cell_of_row w _ 3 _ _ _ h.hb
theorem DevIs.c4 {w : World} {r : DRef} {D : Dev} (h : DevIs w r D) : w.cell? ⟨r.b, 4, none⟩ = some (.int .i64 D.left) := cell_of_row w _ 4 _ _ _ h.hb
theorem DevIs.fz {w : World} {r : DRef} {D : Dev} (h : DevIs w r D) (i : Nat) : w.frozen? ⟨r.b, i, none⟩ = false := frozen_of_row w _ i _ _ h.hb
theorem DevIs.fr {w w' : World} {r : DRef} {D : Dev} {S : Nat → Prop} (h : DevIs w r D) (k : Fr w w' S) (hn : ∀ i, r.foot i → ¬ S i) : DevIs w' r D :=
  ⟨h.ok, k.heap h.hb (hn _ (.inl rfl)), k.heap h.hf (hn _ (.inr (.inl rfl))), k.heap h.hn (hn _ (.inr (.inr (.inl rfl)))), k.owns h.hl (fun i hi => hn _ (.inr (.inr (.inr hi)))), h.ne⟩
theorem DevIs.below {w w' : World} {r : DRef} {D : Dev} (h : DevIs w r D) (k : Below w.heap.size w w') : DevIs w' r D := h.fr (Fr.of_below k Nowhere) (fun _ _ h => h)
theorem DevIs.drewN {w : World} {r : DRef} {D : Dev} (h : DevIs w r D) (n : Nat) : DevIs (w.drewN n) r D := ⟨h.ok, h.hb, h.hf, h.hn, h.hl, h.ne⟩
theorem DevIs.lt {w : World} {r : DRef} {D : Dev} (h : DevIs w r D) {k : Nat} (hk : r.foot k) : k < w.heap.size := by
  rcases hk with rfl | rfl | rfl | hk
  · exact lt_of_heap h.hb
  · exact lt_of_heap h.hf
  · exact lt_of_heap h.hn
  · exact (h.hl.lt k hk).2

def zeroBlk : Blk := List.replicate 64 0
theorem zeroBlk_len : zeroBlk.length = 64 := by simp [zeroBlk]
def Dev.fresh (n : Nat) : Dev := ⟨List.replicate n zeroBlk, [], List.replicate n zeroBlk, false, 0⟩
theorem Dev.fresh_ok {n : Nat} (h1 : 1 ≤ n) (h2 : n ≤ 65536) : (Dev.fresh n).Ok :=
  ⟨by simp [fresh], by simpa [fresh] using h1, by simpa [fresh] using h2, by intro x hx; rw [(List.mem_replicate.1 hx).2]; exact zeroBlk_len,
   by intro x hx; rw [(List.mem_replicate.1 hx).2]; exact zeroBlk_len, by simp [fresh], by simp [fresh], by simp [fresh]⟩

theorem info_blk : (Tryz.prog.info? 108).map (fun i => (i.zero, i.size, i.bytes)) = some (some (.agg (Array.replicate 64 (.int .u8 0))), 64, 64) := by kernel_rfl
theorem made_zero (m : Nat) : madeCells (Array.replicate 64 (Value.int .u8 0)) m = (List.replicate m (Value.int .u8 0)).toArray := by
  apply Array.ext
  · simp [size_madeCells]
  · intro i h1 h2
    have : (i % 64) < 64 := Nat.mod_lt _ (by omega)
    simp [madeCells, this]
theorem row_zero (n : Nat) : rowOf (List.replicate n zeroBlk) = (List.replicate (n * 64) (Value.int .u8 0)).toArray := by
  unfold rowOf
  congr 1
  induction n with
  | zero => simp
  | succ n ih =>
    rw [List.replicate_succ, List.flatMap_cons, ih, Nat.succ_mul, Nat.add_comm, ← List.replicate_append_replicate]
    congr 1
theorem make_blocks (n : Nat) (hn : n ≤ 65536) (W : World) :
    (Instr.makeSlice 68 (.int .i64 n) (.int .i64 n)).run Tryz.prog W = .ok (.slice (some ⟨W.heap.size, 0, none⟩) n n) (W.alloc (.cells (rowOf (List.replicate n zeroBlk)) 108)) := by
  obtain ⟨i0, hi, hzz⟩ := Option.map_eq_some_iff.1 info_blk
  simp only [Prod.mk.injEq] at hzz
  obtain ⟨hz0, hz1, hz2⟩ := hzz
  have := run_make (P := Tryz.prog) W 68 108 i0 _ Tryz.underlying68 hi hz0 .i64 .i64 (n : Int) (n : Int) (by omega) (by omega) (by rw [hz2]; omega) (by omega)
  rw [hz1] at this
  simp only [Int.toNat_natCast, Value.cells, made_zero] at this
  rw [row_zero]
  exact this

def DPost (D : Dev) (w : World) (e : Ending) (w' : World) : Prop :=
  ∃ r : DRef, e = .returned (.pointer (some ⟨r.b, 0, none⟩)) ∧ DevIs w' r D ∧ Below w.heap.size w w' ∧ ∀ k, r.foot k → w.heap.size ≤ k
theorem fresh_is (n : Nat) (h1 : 1 ≤ n) (h2 : n ≤ 65536) (w : World) (bf bn : Nat) (h : (bf = w.heap.size ∧ bn = w.heap.size + 1) ∨ (bf = w.heap.size + 1 ∧ bn = w.heap.size)) :
    DevIs (((w.alloc (.cells (rowOf (List.replicate n zeroBlk)) 108)).alloc (.cells (rowOf (List.replicate n zeroBlk)) 108)).alloc
      (.cells #[.slice (some ⟨bf, 0, none⟩) n n, .slice none 0 0, .slice (some ⟨bn, 0, none⟩) n n, .bool false, .int .i64 0] 71)).drew ⟨w.heap.size + 1 + 1, bf, bn, .slice none 0 0⟩ (Dev.fresh n) := by
  have e0 : ∀ o : Obj, (((w.alloc (.cells (rowOf (List.replicate n zeroBlk)) 108)).alloc (.cells (rowOf (List.replicate n zeroBlk)) 108)).alloc o).heap[w.heap.size]? = some (.cells (rowOf (List.replicate n zeroBlk)) 108) := by
    intro o; rw [Below.heap_alloc _ _ _ (by simp; omega), Below.heap_alloc _ _ _ (by simp)]; exact heap_alloc_new w _
  have e1 : ∀ o : Obj, (((w.alloc (.cells (rowOf (List.replicate n zeroBlk)) 108)).alloc (.cells (rowOf (List.replicate n zeroBlk)) 108)).alloc o).heap[w.heap.size + 1]? = some (.cells (rowOf (List.replicate n zeroBlk)) 108) := by
    intro o; rw [Below.heap_alloc _ _ _ (by simp)]
    have := heap_alloc_new (w.alloc (.cells (rowOf (List.replicate n zeroBlk)) 108)) (.cells (rowOf (List.replicate n zeroBlk)) 108)
    simpa using this
  refine ⟨Dev.fresh_ok h1 h2, ?_, ?_, ?_, World.ownsRow_nil _ _ _ _, ?_⟩
  · have := heap_alloc_new ((w.alloc (.cells (rowOf (List.replicate n zeroBlk)) 108)).alloc (.cells (rowOf (List.replicate n zeroBlk)) 108))
      (.cells #[.slice (some ⟨bf, 0, none⟩) n n, .slice none 0 0, .slice (some ⟨bn, 0, none⟩) n n, .bool false, .int .i64 0] 71)
    simp only [World.size_alloc] at this
    simp only [Dev.fresh, List.length_replicate]
    exact this
  · rcases h with ⟨rfl, rfl⟩ | ⟨rfl, rfl⟩
    · exact e0 _
    · exact e1 _
  · rcases h with ⟨rfl, rfl⟩ | ⟨rfl, rfl⟩
    · exact e1 _
    · exact e0 _
  · dsimp only; omega
set_option maxHeartbeats 400000 in
theorem New_any (n : Nat) (w : World) (h1 : 1 ≤ n) (h2 : n ≤ 65536) :
    Calls Tryz.prog 10 #[.int .i64 n] w (DPost (Dev.fresh n) w) := by
  have hmk := make_blocks n h2
  have hi0 : ¬ ((n : Int) < 1) := by omega
  have hi1 : ¬ ((65536 : Int) < n) := by omega
  have hF0 := Lib.hid (fresh_is n h1 h2 w w.heap.size (w.heap.size + 1) (.inl ⟨rfl, rfl⟩))
  have hF1 := Lib.hid (fresh_is n h1 h2 w (w.heap.size + 1) w.heap.size (.inr ⟨rfl, rfl⟩))
  generalize rowOf (List.replicate n zeroBlk) = R at *
  go_enter Tryz.func10, Tryz.ntmps10
  go_wp2
  go_region
  · go_wp2
    go_ret
    exact ⟨_, rfl, hF0.out, ((((Below.refl _ _).alloc (Nat.le_refl _) _).alloc (by simp) _).alloc (by simp; omega) _).drew, by intro k hk; rcases hk with rfl | rfl | rfl | hk <;> first | (dsimp only; omega) | (simp [Value.ownBlock] at hk)⟩
  · go_wp2
    go_ret
    exact ⟨_, rfl, hF1.out, ((((Below.refl _ _).alloc (Nat.le_refl _) _).alloc (by simp) _).alloc (by simp; omega) _).drew, by intro k hk; rcases hk with rfl | rfl | rfl | hk <;> first | (dsimp only; omega) | (simp [Value.ownBlock] at hk)⟩
set_option maxHeartbeats 400000 in
theorem New_none (n : Int) (w : World) (h : n < 1 ∨ 65536 < n) :
    Calls Tryz.prog 10 #[.int .i64 n] w fun e w' => e = .returned (.pointer none) ∧ w' = w := by
  rcases h with h | h
  · go_enter Tryz.func10, Tryz.ntmps10
    go_wp2
    go_ret
    exact ⟨rfl, rfl⟩
  · have h' : ¬ n < 1 := by omega
    go_enter Tryz.func10, Tryz.ntmps10
    go_wp2
    go_ret
    exact ⟨rfl, rfl⟩
set_option maxHeartbeats 400000 in
theorem Blocks_any (r : DRef) (D : Dev) (w : World) (h : DevIs w r D) :
    Calls Tryz.prog 67 #[.pointer (some ⟨r.b, 0, none⟩)] w fun e w' => e = .returned (.int .i64 D.now.length) ∧ w' = w := by
  have c2 := h.c2
  go_enter Tryz.func67, Tryz.ntmps67
  go_wp2
  go_ret
  exact ⟨rfl, rfl⟩
set_option maxHeartbeats 400000 in
theorem Writes_any (r : DRef) (D : Dev) (w : World) (h : DevIs w r D) :
    Calls Tryz.prog 31 #[.pointer (some ⟨r.b, 0, none⟩)] w fun e w' => e = .returned (.int .i64 D.log.length) ∧ w' = w := by
  have c1 := h.c1
  obtain ⟨A, c, hv⟩ : ∃ A c, r.vl = .slice A D.log.length c := by
    rcases h.hl.2 with ⟨hv, h0⟩ | ⟨g, cap, cur, hv, _⟩
    · exact ⟨none, 0, by rw [hv, h0]⟩
    · exact ⟨_, cap, hv⟩
  rw [hv] at c1
  clear hv h
  go_enter Tryz.func31, Tryz.ntmps31
  go_wp2
  go_ret
  exact ⟨rfl, rfl⟩
end Go.Proofs.YtjflcpkmoamijaaGreatDoor
namespace Go.Proofs.YtjflcpkmoamijaaGreatDoor
open Go.RowKit
set_option linter.unusedVariables false
set_option linter.unusedSimpArgs false
set_option linter.unnecessarySimpa false

/-! ### Parts of an aggregate that are aggregates themselves, of variables -/
theorem fold_set (off : Nat) : ∀ (vs : List Value) (k : Nat) (cs : Array Value), off + k + vs.length ≤ cs.size →
    ((vs.zipIdx k).foldl (fun cs (x : Value × Nat) => cs.setIfInBounds (off + x.2) x.1) cs).toList = cs.toList.take (off + k) ++ vs ++ cs.toList.drop (off + k + vs.length)
  | [], k, cs, h => by simp
  | v :: vs, k, cs, h => by
    simp only [List.zipIdx_cons, List.foldl_cons, List.length_cons] at h ⊢
    rw [fold_set off vs (k + 1) _ (by simp; omega)]
    have hk : off + k < cs.toList.length := by simp; omega
    simp only [Array.toList_setIfInBounds]
    have e1 : (cs.toList.set (off + k) v).take (off + (k + 1)) = cs.toList.take (off + k) ++ [v] := by
      rw [show off + (k + 1) = (off + k) + 1 by omega, List.take_succ_eq_append_getElem (by simpa using hk)]
      simp [List.take_set_of_le]
    have e2 : (cs.toList.set (off + k) v).drop (off + (k + 1) + vs.length) = cs.toList.drop (off + k + (vs.length + 1)) := by
      rw [List.drop_set_of_lt (by omega)]; congr 1; omega
    rw [e1, e2]
    simp
/-- A part laid over a row of cells. -/
def laid (cs : List Value) (off : Nat) (vs : List Value) : List Value := cs.take off ++ vs ++ cs.drop (off + vs.length)
theorem fill_step (place : Nat → Option (Nat × Nat)) (cells : Array Value) (i : Nat) (v : Value) (rest : List (Nat × Value)) (off : Nat) (hp : place i = some (off, v.cells.size)) (hf : off + v.cells.size ≤ cells.size) :
    Instr.fill place cells ((i, v) :: rest) = Instr.fill place (laid cells.toList off v.cells.toList).toArray rest := by
  simp only [Instr.fill, hp]
  rw [if_neg (by simp; omega)]
  congr 1
  apply Array.toList_inj.1
  have := fold_set off v.cells.toList 0 cells (by simpa using hf)
  simp only [Nat.add_zero] at this
  rw [laid, ← this, ← Array.foldl_toList]
  simp
end Go.Proofs.YtjflcpkmoamijaaGreatDoor
namespace Go.Proofs.YtjflcpkmoamijaaGreatDoor
open Go.RowKit
set_option linter.unusedVariables false
set_option linter.unusedSimpArgs false
set_option linter.unnecessarySimpa false

/-- A block's cells. -/
def brow (b : Blk) : Array Value := (bvals b).toArray
def wrow (i : Nat) (b : Blk) : Array Value := (wvals (i, b)).toArray
theorem brow_size {b : Blk} (h : b.length = 64) : (brow b).size = 64 := by simp [brow, bvals, h]
theorem wrow_size {i : Nat} {b : Blk} (h : b.length = 64) : (wrow i b).size = 65 := by simp [wrow, wvals_len, h]
def zw : Array Value := (Value.int .i64 0 :: bvals zeroBlk).toArray
theorem zw_size : zw.size = 65 := rfl
theorem info_wr : (Tryz.prog.info? 110).map (fun i => (i.zero, i.size, i.bytes)) = some (some (.agg zw), 65, 72) := by kernel_rfl
theorem built_wr (parts : List (Nat × Value)) : Tryz.prog.built 110 parts = Instr.fill ((#[(0, 1), (1, 64)] : Array (Nat × Nat))[·]?) zw parts := by
  have h : ∀ parts, Tryz.prog.built 110 parts = Instr.fill ((#[(0, 1), (1, 64)] : Array (Nat × Nat))[·]?) zw parts := fun _ => by kernel_rfl
  exact h parts
theorem laid_wr (i : Nat) (b : Blk) (h : b.length = 64) : laid (laid zw.toList 0 [.int .i64 i]) 1 (bvals b) = wvals (i, b) := by
  have hl : (laid zw.toList 0 [.int .i64 i]).length = 65 := by simp [laid]; rw [zw_size]
  have h1 : (laid zw.toList 0 [.int .i64 i]).take 1 = [.int .i64 i] := by simp [laid]
  have h2 : (laid zw.toList 0 [.int .i64 i]).drop (1 + (bvals b).length) = [] := by rw [bvals_len, h]; exact List.drop_of_length_le (by omega)
  unfold laid at h1 h2 ⊢
  rw [h1, h2]
  simp [wvals]
theorem run_build_wr (w : World) (i : Nat) (b : Blk) (h : b.length = 64) :
    (Instr.build 110 #[(0, .int .i64 i), (1, .agg (brow b))]).run Tryz.prog w = .ok (.agg (wrow i b)) w := by
  refine run_build w _ _ _ ?_
  rw [built_wr]
  have hb := brow_size h
  rw [fill_step _ _ 0 (.int .i64 i) _ 0 rfl (by rw [zw_size]; simp [Value.cells]), fill_step _ _ 1 (.agg (brow b)) _ 1 (by simp [Value.cells, hb]) (by simp only [Value.cells, hb, List.size_toArray, laid, List.length_append, List.length_take, List.length_drop, Array.length_toList, zw_size]; simp)]
  simp only [Instr.fill]
  have := laid_wr i b h
  simp only [Value.cells, brow] at this ⊢
  rw [this]; rfl
theorem run_bs_wr (w : World) (i : Nat) (b : Blk) (h : b.length = 64) :
    (Instr.buildSlice 69 1 #[(0, .agg (wrow i b))]).run Tryz.prog w = .ok (.slice (some ⟨w.heap.size, 0, none⟩) 1 1) (w.alloc (.cells (wrow i b) 110)) := by
  obtain ⟨i0, hi, hzz⟩ := Option.map_eq_some_iff.1 info_wr
  simp only [Prod.mk.injEq] at hzz
  obtain ⟨hz0, hz1, hz2⟩ := hzz
  have hw := wrow_size (i := i) h
  have hm : (Array.range (1 * 65)).map (zw[· % 65]!) = madeCells zw 65 := by unfold madeCells; rw [zw_size]
  simp only [Instr.buildSlice, Sem.run_bind, run_underlying Tryz.underlying69, Result.andThen_ok, sizeOf, typeInfo, zeroValue, hi, hz0, hz1, Sem.run_pure]
  simp [Value.cells, hz1, hz0, zw_size, hi, Sem.run_bind, typeInfo]
  rw [fill_step _ _ 0 (.agg (wrow i b)) _ 0 (by simp [Value.cells, hw]) (by simp [Value.cells, hw])]
  simp only [Instr.fill, Value.cells, laid]
  simp [newRow]
  rw [List.drop_of_length_le (by simp [hw])]
  simp
end Go.Proofs.YtjflcpkmoamijaaGreatDoor
namespace Go.Proofs.YtjflcpkmoamijaaGreatDoor
open Go.RowKit Go.Proofs.YtjflcpkmoamijaaGreatDoorW.PrintLast
set_option linter.unusedVariables false
set_option linter.unusedSimpArgs false
set_option linter.unnecessarySimpa false

/-! ### A region that draws its order, walked in ONE order of the prover's own
'q': yields in every world that meets S (a load); 'p': yields in every world (a move, a sum, an address); 'l': whatever else, S is shown anew; 'd': the same, S is not shown (a store into what was loaded: it waits for every q). -/
inductive SK where
  | q | p | l | d
section
variable (P : Program) (ops : Array Oper) (Q : Exit → Act → World → Prop) (S : World → Prop) (ds : List Nat)
def wpSeq : List (SK × Nat) → Act → World → Prop
  | [], a, w => Q .normal a w
  | (.q, i) :: r, a, w => ∃ o v, ops[i]? = some o ∧ YieldsIf P ops S o v a ∧ S w ∧ wpSeq r (a.put o.dst v) w
  | (.p, i) :: r, a, w => ∃ o v, ops[i]? = some o ∧ Yields P ops o v a ∧ wpSeq r (a.put o.dst v) w
  | (.l, i) :: r, a, w => wpOp P ops Q i (fun a' w' => (S w → S w') ∧ wpSeq r a' w') a w
  | (.d, i) :: r, a, w => wpOp P ops Q i (fun a' w' => wpSeq r a' w') a w
def seqB : List (SK × Nat) → Array Bool → Bool
  | [], l => Region.ready .any ops l == []
  | (.q, i) :: r, l => Region.free .any ops l i && (Region.ready .any ops l).contains i && Region.closedB .any ops l && Region.lastB .any ops l ds i && seqB r (l.setIfInBounds i true)
  | (.p, i) :: r, l => Region.free .any ops l i && (Region.ready .any ops l).contains i && seqB r (l.setIfInBounds i true)
  | (.l, i) :: r, l => Region.ready .any ops l == [i] && !ds.contains i && seqB r (l.setIfInBounds i true)
  | (.d, i) :: r, l => Region.ready .any ops l == [i] && ds.contains i && seqB r (l.setIfInBounds i true)
end
section
variable {P : Program} {ops : Array Oper} {Q : Exit → Act → World → Prop} {S : World → Prop} {ds : List Nat}
theorem wpAny_of_seq (hs : Region.noSelect ops = true) (hQ : ∀ (d : Option Tmp) v c a w, Q (.panic c) (a.put d v) w → Q (.panic c) a w) :
    ∀ (l : List (SK × Nat)) (listed : Array Bool) (a : Act) (w : World), seqB ops ds l listed = true → wpSeq P ops Q S l a w → wpAnyLast P .any ops Q S ds l.length listed a w := by
  intro l
  induction l with
  | nil => intro listed a w hB h; exact wpAnyLast_done (by simpa [seqB] using hB) h 0
  | cons x r ih =>
    obtain ⟨k, i⟩ := x
    intro listed a w hB h
    cases k with
    | q =>
      simp only [seqB, Bool.and_eq_true] at hB
      obtain ⟨⟨⟨⟨h1, h2⟩, h3⟩, h4⟩, h5⟩ := hB
      obtain ⟨o, v, ho, hy, hS, hr⟩ := h
      exact wpAnyLast_take ho hs h1 h2 h3 h4 (hQ _ _) hy hS (ih _ _ _ h5 hr)
    | p =>
      simp only [seqB, Bool.and_eq_true] at hB
      obtain ⟨⟨h1, h2⟩, h5⟩ := hB
      obtain ⟨o, v, ho, hy, hr⟩ := h
      exact wpAnyLast_any ho (Region.noSelect_spec hs) (hQ _ _) _ listed a w (Region.free_spec ho h1) (by simpa using h2) hy (ih _ _ _ h5 hr)
    | l =>
      simp only [seqB, Bool.and_eq_true, beq_iff_eq] at hB
      obtain ⟨⟨h1, h2⟩, h5⟩ := hB
      refine wpAnyLast_all h1 (by simp) (fun j hj => ?_)
      obtain rfl : j = i := by simpa using hj
      exact wpOp_mono (fun a' w' h' => ⟨fun _ => h'.1, ih _ _ _ h5 h'.2⟩) h
    | d =>
      simp only [seqB, Bool.and_eq_true, beq_iff_eq] at hB
      obtain ⟨⟨h1, h2⟩, h5⟩ := hB
      refine wpAnyLast_all h1 (by simp) (fun j hj => ?_)
      obtain rfl : j = i := by simpa using hj
      exact wpOp_mono (fun a' w' h' => ⟨fun hn => absurd (by simpa using h2) hn, ih _ _ _ h5 h'⟩) h
theorem region_seq {id : Nat} {a : Act} {w : World} (S : World → Prop) (ds : List Nat) (l : List (SK × Nat)) (hm : P.follows .mixedOrders = true) (hs : Region.noSelect ops = true)
    (hl : l.length = ops.size) (hB : seqB ops ds l (Array.replicate ops.size false) = true) (hQ : ∀ (d : Option Tmp) v c a w, Q (.panic c) (a.put d v) w → Q (.panic c) a w)
    (h : wpSeq P ops Q S l a w.drew) : (Code.region id ops true).wp P Q a w := by
  have := wpAny_of_seq (P := P) (S := S) hs hQ l _ a w.drew hB h
  rw [hl] at this
  exact wp_region_any hm (wpAny_of_last _ _ _ _ this)
variable {i : Nat} {o : Oper} {r : List (SK × Nat)} {a : Act} {w : World} {N : Option Tmp}
theorem seq_q (ho : ops[i]? = some o) (hN : o.dst = N) (hw : Region.wanted o (yielded ops a.tmps) = true) (v : Value) (hr : ∀ w', S w' → (execOp a.eval o).run P w' = .ok (.value v) w') (hS : S w)
    (h : wpSeq P ops Q S r (a.put N v) w) : wpSeq P ops Q S ((.q, i) :: r) a w := ⟨o, v, ho, .inl ⟨hw, hr⟩, hS, hN ▸ h⟩
theorem seq_p (ho : ops[i]? = some o) (hN : o.dst = N) (hw : Region.wanted o (yielded ops a.tmps) = true) (v : Value) (hr : ∀ w', (execOp a.eval o).run P w' = .ok (.value v) w')
    (h : wpSeq P ops Q S r (a.put N v) w) : wpSeq P ops Q S ((.p, i) :: r) a w := ⟨o, v, ho, .inl ⟨hw, hr⟩, hN ▸ h⟩
theorem seq_off (ho : ops[i]? = some o) (hN : o.dst = N) (hw : Region.wanted o (yielded ops a.tmps) = false)
    (h : wpSeq P ops Q S r (a.put N undef) w) : wpSeq P ops Q S ((.p, i) :: r) a w := ⟨o, undef, ho, .inr ⟨hw, rfl⟩, hN ▸ h⟩
theorem seq_l (ho : ops[i]? = some o) (hw : Region.wanted o (yielded ops a.tmps) = true) (h : o.wp P a w (fun a' w' => (S w → S w') ∧ wpSeq P ops Q S r a' w') Q) : wpSeq P ops Q S ((.l, i) :: r) a w := by
  unfold wpSeq wpOp; simp only [ho, hw, if_true]; exact .inl h
theorem seq_d (ho : ops[i]? = some o) (hw : Region.wanted o (yielded ops a.tmps) = true) (h : o.wp P a w (fun a' w' => wpSeq P ops Q S r a' w') Q) : wpSeq P ops Q S ((.d, i) :: r) a w := by
  unfold wpSeq wpOp; simp only [ho, hw, if_true]; exact .inl h
theorem seq_nil (h : Q .normal a w) : wpSeq P ops Q S [] a w := h
end
section
variable {P : Program} {o : Oper} {a : Act} {w w' : World} {K : Act → World → Prop} {Q : Exit → Act → World → Prop} {N : Option Tmp}
theorem wpList_load_run {ops : Array Oper} {rest : List Oper} (t : TypeId) (x : Operand) (ho : o.op = .load t x) (hgd : o.guard = none) (v u : Value) (hx : a.eval x = v) (hr : (Instr.loadAt t v).run P w = .ok u w)
    (h : wpList P ops Q rest (a.put o.dst u) w) : wpList P ops Q (o :: rest) a w :=
  wpList_plain hgd fun _ hK => by
    unfold Oper.wp execOp
    simp only [ho, hx, Sem.run_bind, Sem.run_pure, Result.andThen_ok, hr]
    exact hK _ _ h
theorem wpList_store_run' {ops : Array Oper} {rest : List Oper} (t : TypeId) (x y : Operand) (ho : o.op = .store t x y) (hgd : o.guard = none) (v u : Value) (hx : a.eval x = v) (hy : a.eval y = u) (hr : (Instr.storeAt t v u).run P w = .ok () w')
    (h : wpList P ops Q rest (a.put o.dst undef) w') : wpList P ops Q (o :: rest) a w :=
  wpList_plain hgd fun _ hK => by
    unfold Oper.wp execOp
    simp only [ho, hx, hy, Sem.run_bind, Sem.run_pure, Result.andThen_ok, hr]
    exact hK _ _ h
theorem run_ld {t : TypeId} {x : Operand} {v u : Value} (ho : o.op = .load t x) (hx : a.eval x = v) (hr : (Instr.loadAt t v).run P w = .ok u w') : (execOp a.eval o).run P w = .ok (.value u) w' := by
  unfold execOp
  simp only [ho, hx, Sem.run_bind, Sem.run_pure, Result.andThen_ok, hr]
theorem run_bd {t : TypeId} {parts : Array (Nat × Operand)} {ps : Array (Nat × Value)} {u : Value} (ho : o.op = .build t parts) (hx : (parts.map fun (i, x) => (i, a.eval x)) = ps) (hr : (Instr.build t ps).run P w = .ok u w') : (execOp a.eval o).run P w = .ok (.value u) w' := by
  unfold execOp
  simp only [ho, hx, Sem.run_bind, Sem.run_pure, Result.andThen_ok, hr]
theorem wp_bs {t : TypeId} {n : Nat} {parts : Array (Nat × Operand)} {ps : Array (Nat × Value)} {u : Value} (ho : o.op = .buildSlice t n parts) (hN : o.dst = N) (hx : (parts.map fun (i, x) => (i, a.eval x)) = ps) (hr : (Instr.buildSlice t n ps).run P w = .ok u w') (h : K (a.put N u) w') : o.wp P a w K Q := by
  subst hN
  unfold Oper.wp execOp
  simp only [ho, hx, Sem.run_bind, Sem.run_pure, Result.andThen_ok, hr]
  exact h
theorem wp_st {t : TypeId} {x y : Operand} {v u : Value} (ho : o.op = .store t x y) (hN : o.dst = none) (hx : a.eval x = v) (hy : a.eval y = u) (hr : (Instr.storeAt t v u).run P w = .ok () w') (h : K a w') : o.wp P a w K Q := by
  unfold Oper.wp execOp
  simp only [ho, hx, hy, Sem.run_bind, Sem.run_pure, Result.andThen_ok, hr]
  show K (a.put o.dst undef) w'
  rw [hN]; exact h
end
end Go.Proofs.YtjflcpkmoamijaaGreatDoor
namespace Go.Proofs.YtjflcpkmoamijaaGreatDoor
open Go.RowKit
set_option linter.unusedVariables false
set_option linter.unusedSimpArgs false
set_option linter.unnecessarySimpa false

theorem DevIs.cell {w : World} {r : DRef} {D : Dev} (h : DevIs w r D) (i j : Nat) (hi : i < D.now.length) (hj : j < (D.now[i]).length) : w.cell? ⟨r.bn, i * 64 + j, none⟩ = some (.int .u8 (D.now[i][j].toNat : Int)) := by
  have h64 := h.ok.n64 _ (List.getElem_mem hi)
  rw [cell_of_row w _ _ _ _ _ h.hn]
  unfold rowOf
  rw [List.getElem?_toArray, flat_get bvals 64 D.now i j (fun x hx => by rw [bvals_len]; exact h.ok.n64 x hx) hi (by omega)]
  simp [bvals, List.getElem?_eq_getElem hj]
def blkAt (D : Dev) (i : Nat) : Blk := D.now.getD i []
theorem DevIs.conv {w : World} {r : DRef} {D : Dev} (h : DevIs w r D) (i : Nat) (hi : i < D.now.length) :
    (convert 111 9 (.slice (some ⟨r.bn, i * 64, none⟩) 64 64)).run Tryz.prog w = .ok (.string ⟨(blkAt D i).toArray⟩) w := by
  have h64 := h.ok.n64 _ (List.getElem_mem hi)
  have hb : blkAt D i = D.now[i] := by simp [blkAt, List.getD, List.getElem?_eq_getElem hi]
  rw [hb]
  have := run_convert_bytes_back (P := Tryz.prog) w 111 9 5 ⟨r.bn, i * 64, none⟩ 64 D.now[i] Tryz.underlying111 Tryz.underlying5 Tryz.underlying9
    (fun j hj => by rw [Addr.add_mid]; exact h.cell i j hi hj)
  rw [h64] at this
  exact this
set_option maxHeartbeats 400000 in
set_option maxRecDepth 100000 in
theorem DRead_any (r : DRef) (D : Dev) (i : Nat) (w : World) (h : DevIs w r D) (hi : i < D.now.length) :
    Calls Tryz.prog 101 #[.pointer (some ⟨r.b, 0, none⟩), .int .i64 i] w fun e w' => e = .returned (.tuple #[.string ⟨(blkAt D i).toArray⟩, .int .i64 0]) ∧ w' = w := by
  have c2 := h.c2
  have hc := h.conv i hi
  have hi' : (i : Int) < (D.now.length : Int) := by omega
  have ht := h.ok.top
  clear h
  go_enter Tryz.func101, Tryz.ntmps101
  go_wp2
  go_ret2
  exact ⟨rfl, rfl⟩
/-- A block that begins with a string. -/
def padB (s : ByteArray) : Blk := s.data.toList ++ List.replicate (64 - s.size) 0
theorem padB_len {s : ByteArray} (h : s.size ≤ 64) : (padB s).length = 64 := by
  have : s.data.toList.length = s.size := rfl
  simp only [padB, List.length_append, List.length_replicate, this]; omega
def Dev.write (D : Dev) (i : Nat) (s : ByteArray) : Dev := { D with now := D.now.set i (padB s), log := D.log ++ [(i, padB s)], left := if D.lim then D.left - 1 else D.left }
/-- A new array's cells, as the walk spells them. -/
def zc : Array Value := #[.int .u8 0, .int .u8 0, .int .u8 0, .int .u8 0, .int .u8 0, .int .u8 0, .int .u8 0, .int .u8 0, .int .u8 0, .int .u8 0, .int .u8 0, .int .u8 0, .int .u8 0, .int .u8 0, .int .u8 0, .int .u8 0, .int .u8 0, .int .u8 0, .int .u8 0, .int .u8 0, .int .u8 0, .int .u8 0, .int .u8 0, .int .u8 0, .int .u8 0, .int .u8 0, .int .u8 0, .int .u8 0, .int .u8 0, .int .u8 0, .int .u8 0, .int .u8 0, .int .u8 0, .int .u8 0, .int .u8 0, .int .u8 0, .int .u8 0, .int .u8 0, .int .u8 0, .int .u8 0, .int .u8 0, .int .u8 0, .int .u8 0, .int .u8 0, .int .u8 0, .int .u8 0, .int .u8 0, .int .u8 0, .int .u8 0, .int .u8 0, .int .u8 0, .int .u8 0, .int .u8 0, .int .u8 0, .int .u8 0, .int .u8 0, .int .u8 0, .int .u8 0, .int .u8 0, .int .u8 0, .int .u8 0, .int .u8 0, .int .u8 0, .int .u8 0]
theorem zc_def : zc = #[.int .u8 0, .int .u8 0, .int .u8 0, .int .u8 0, .int .u8 0, .int .u8 0, .int .u8 0, .int .u8 0, .int .u8 0, .int .u8 0, .int .u8 0, .int .u8 0, .int .u8 0, .int .u8 0, .int .u8 0, .int .u8 0, .int .u8 0, .int .u8 0, .int .u8 0, .int .u8 0, .int .u8 0, .int .u8 0, .int .u8 0, .int .u8 0, .int .u8 0, .int .u8 0, .int .u8 0, .int .u8 0, .int .u8 0, .int .u8 0, .int .u8 0, .int .u8 0, .int .u8 0, .int .u8 0, .int .u8 0, .int .u8 0, .int .u8 0, .int .u8 0, .int .u8 0, .int .u8 0, .int .u8 0, .int .u8 0, .int .u8 0, .int .u8 0, .int .u8 0, .int .u8 0, .int .u8 0, .int .u8 0, .int .u8 0, .int .u8 0, .int .u8 0, .int .u8 0, .int .u8 0, .int .u8 0, .int .u8 0, .int .u8 0, .int .u8 0, .int .u8 0, .int .u8 0, .int .u8 0, .int .u8 0, .int .u8 0, .int .u8 0, .int .u8 0] := rfl
theorem zc_eq : zc = (bvals zeroBlk).toArray := rfl
theorem pad_cells (s : ByteArray) (h : s.size ≤ 64) : zc.toList.take 0 ++ Lib.byteCells s.data.toList ++ zc.toList.drop (0 + s.size) = bvals (padB s) := by
  rw [zc_eq]
  have : (bvals zeroBlk) = List.replicate 64 (.int .u8 0) := rfl
  rw [this]
  simp only [List.take_zero, List.nil_append, Nat.zero_add, List.drop_replicate, padB, bvals, List.map_append, List.map_replicate]
  rfl
/-- The variable b behind 'copy(b[:], s)'. -/
theorem copied_b (w : World) (s : ByteArray) (h : s.size ≤ 64) : ∃ w2, (Builtin.copy_ #[111, 9] 3 #[.slice (some ⟨w.heap.size, 0, none⟩) 64 64, .string s]).run Tryz.prog (w.alloc (.cells zc 108)) = .ok (goInt s.size) w2 ∧
    w2.heap[w.heap.size]? = some (.cells (brow (padB s)) 108 (0, 0)) ∧ Fr w w2 Nowhere ∧ w2.heap.size = w.heap.size + 1 := by
  have hg := heap_alloc_new w (.cells zc 108)
  have hr := Lib.run_copy_row_string (P := Tryz.prog) (w.alloc (.cells zc 108)) 111 9 3 5 w.heap.size 0 64 64 s zc 108 Tryz.underlying111 (by kernel_rfl) hg h (by rw [zc_eq]; simp [bvals, zeroBlk]; omega)
  rw [pad_cells s h] at hr
  refine ⟨_, hr, setRow_heap _ _ _ _ _ _ hg, ?_, by simp⟩
  exact ⟨rfl, rfl, rfl, by simp, fun k hk _ => by rw [setRow_other _ _ _ _ (by omega)]; exact Below.heap_alloc w _ k hk⟩
theorem run_load_blk (w : World) (g : Nat) (b : Blk) (hg : w.heap[g]? = some (.cells (brow b) 108 (0, 0))) (hb : (brow b).size = 64) :
    (Instr.loadAt 108 (.pointer (some ⟨g, 0, none⟩))).run Tryz.prog w = .ok (.agg (brow b)) w := by
  have := run_loadVar_row (P := Tryz.prog) w g 108 108 (brow b) (0, 0) _ hg Tryz.underlying108 rfl (by rw [hb]; kernel_rfl)
  simp only [Instr.loadAt, Instr.sureAddr, Sem.run_bind, Sem.run_pure, Result.andThen_ok, this]
theorem wpList_store_run {P : Program} {ops : Array Oper} {rest : List Oper} {o : Oper} {a : Act} {Q : Exit → Act → World → Prop} {w w' : World} (hgd : o.guard = none) (t : TypeId) (x y : Operand) (ho : o.op = .store t x y)
    (v u : Value) (hx : a.eval x = v) (hy : a.eval y = u) (hr : (Instr.storeAt t v u).run P w = .ok () w') (h : wpList P ops Q rest (a.put o.dst undef) w') : wpList P ops Q (o :: rest) a w :=
  wpList_plain hgd fun _ hK => by
    unfold Oper.wp execOp
    simp only [ho, hx, hy, Sem.run_bind, Sem.run_pure, Result.andThen_ok, hr]
    exact hK _ _ h
theorem store_blk {w : World} {r : DRef} {D : Dev} (h : DevIs w r D) (i : Nat) (b : Blk) (hi : i < D.now.length) (hb : b.length = 64) :
    (Instr.storeAt 108 (.pointer (some ⟨r.bn, i * 64, none⟩)) (.agg (brow b))).run Tryz.prog w = .ok () (w.setRow r.bn (rowOf (D.now.set i b))) := by
  have hlen : (rowOf D.now).size = D.now.length * 64 := by unfold rowOf; rw [List.size_toArray, flat_len bvals 64 D.now (fun x hx => by rw [bvals_len]; exact h.ok.n64 x hx)]
  have hst := run_storeCells_at Tryz.prog r.bn (i * 64) 108 (bvals b) 0 (rowOf D.now) w h.hn (by rw [bvals_len, hb, hlen]; omega) (by
    intro v hv
    obtain ⟨c, _, rfl⟩ := List.mem_map.1 hv
    rfl)
  have hset : ((rowOf D.now).toList.take (i * 64) ++ bvals b ++ (rowOf D.now).toList.drop (i * 64 + 64)).toArray = rowOf (D.now.set i b) := by
    unfold rowOf
    rw [← flat_set bvals 64 D.now i b (fun x hx => by rw [bvals_len]; exact h.ok.n64 x hx) hi]
  simp only [Nat.add_zero, bvals_len, hb, hset] at hst
  have hi : (Tryz.prog.info? 108).map (·.size) = some 64 := by kernel_rfl
  cases hq : Tryz.prog.info? 108 with
  | none => simp [hq] at hi
  | some i0 =>
    have hs : (brow b).size = i0.size := by rw [brow_size hb]; simp [hq] at hi; omega
    have hl : (brow b).toList = bvals b := by simp [brow]
    simp [Instr.storeAt, Instr.sureAddr, storeVar, sizeOf, typeInfo, hq, Value.cells, hs, hl, hst]
/-- A step of a device: only its own blocks have changed; a block that it has taken is new. -/
structure DStep (w : World) (r : DRef) (w' : World) (r' : DRef) : Prop where
  b : r'.b = r.b
  fr : Fr w w' r.foot
  sub : ∀ k, k < w.heap.size → r'.foot k → r.foot k

theorem wrow_one (i : Nat) (b : Blk) : ∀ u ∈ (wrow i b).toList, u.oneCell' = true := by
  intro u hu
  simp only [wrow, wvals, bvals, List.mem_cons] at hu
  rcases hu with rfl | hu
  · rfl
  · obtain ⟨c, _, rfl⟩ := List.mem_map.1 hu
    rfl
/-- A slice's header, stored. -/
theorem store1 {P : Program} (w : World) (t : TypeId) (g i : Nat) (v u : Value) (hv : v.oneCell' = true) (hi : (P.info? t).map (·.size) = some 1) (hc : w.cell? ⟨g, i, none⟩ = some u) (hf : w.frozen? ⟨g, i, none⟩ = false) :
    (Instr.storeAt t (.pointer (some ⟨g, i, none⟩)) v).run P w = .ok () (w.setCell ⟨g, i, none⟩ v) := by
  cases hq : P.info? t with
  | none => simp [hq] at hi
  | some i0 =>
    have hs : i0.size = 1 := by simpa [hq] using hi
    have hcl : v.cells = #[v] := by cases v <;> first | rfl | (simp [Value.oneCell'] at hv)
    have hst := run_store P w ⟨g, i, none⟩ v .plain hv
    rw [hc] at hst
    simp only [hf, Bool.false_eq_true, if_false] at hst
    simp [Instr.storeAt, Instr.sureAddr, storeVar, sizeOf, typeInfo, hq, hcl, hs, storeCells, hst, Addr.add]
theorem own_cell {w : World} {base : Nat} {e : TypeId} {size n : Nat} {v : Value} {xs : List Value} (h : w.ownsRow base e size v n xs) : v.oneCell' = true := by
  rcases h.2 with ⟨rfl, _⟩ | ⟨g, cap, cur, rfl, _⟩ <;> rfl
theorem DevIs.pushed {w3 w4 : World} {r : DRef} {D : Dev} (H : DevIs w3 r D) (i : Nat) (b : Blk) (hb : b.length = 64) (hi : i < D.now.length) {v4 : Value}
    (hown : w4.ownsRow 0 110 65 v4 (D.log.length + 1) (D.log.flatMap wvals ++ (wrow i b).toList)) (hg : w3.grownBy w4 r.vl.ownBlock) (hat : v4.ownBlock = r.vl.ownBlock ∨ v4.ownBlock = some (w3.heap.size + 1)) :
    DevIs (w4.setCell ⟨r.b, 1, none⟩ v4) ⟨r.b, r.bf, r.bn, v4⟩ { D with log := D.log ++ [(i, b)] } ∧ DStep w3 r (w4.setCell ⟨r.b, 1, none⟩ v4) ⟨r.b, r.bf, r.bn, v4⟩ := by
  have hF : Fr w3 w4 r.foot := Fr.grown hg (fun k hk _ => .inr (.inr (.inr hk)))
  have hF1 : Fr w3 w4 (fun k => r.vl.ownBlock = some k) := Fr.grown hg (fun k hk _ => hk)
  have m1 : ¬ r.vl.ownBlock = some r.b := fun e => own_ne H.hl H.hb (by decide) e rfl
  have m2 : ¬ r.vl.ownBlock = some r.bf := fun e => own_ne H.hl H.hf (by decide) e rfl
  have m3 : ¬ r.vl.ownBlock = some r.bn := fun e => own_ne H.hl H.hn (by decide) e rfl
  have h4b := hF1.heap H.hb m1
  have h4f := hF1.heap H.hf m2
  have h4n := hF1.heap H.hn m3
  have e1 : r.bf ≠ r.b := fun e => ne_of_elem H.hf H.hb (by decide) e
  have e2 : r.bn ≠ r.b := fun e => ne_of_elem H.hn H.hb (by decide) e
  have hset := heap_setCell_same w4 r.b 1 _ _ v4 h4b
  refine ⟨⟨?_, ?_, ?_, ?_, ?_, H.ne⟩, rfl, ?_, ?_⟩
  · refine ⟨H.ok.len, H.ok.pos, H.ok.top, H.ok.f64, H.ok.n64, ?_, ?_, H.ok.lft⟩
    · intro x hx
      rcases List.mem_append.1 hx with hx | hx
      · exact H.ok.l64 x hx
      · simp at hx; subst hx; exact hb
    · intro x hx
      rcases List.mem_append.1 hx with hx | hx
      · exact H.ok.lat x hx
      · simp at hx; subst hx; exact hi
  · simpa using hset
  · exact (Below.heap_setCell _ _ _ _ e1).trans h4f
  · exact (Below.heap_setCell _ _ _ _ e2).trans h4n
  · have hh := ownsRow_setCell_other hown (a := ⟨r.b, 1, none⟩) (fun e => own_ne hown h4b (by decide) e rfl) v4
    have hw : (wrow i b).toList = wvals (i, b) := by simp [wrow]
    rw [hw] at hh
    simpa using hh
  · exact hF.setCell _ _ (fun _ => .inl rfl)
  · intro k hk hf
    rcases hf with rfl | rfl | rfl | hf
    · exact .inl rfl
    · exact .inr (.inl rfl)
    · exact .inr (.inr (.inl rfl))
    · rcases hat with hat | hat
      · exact .inr (.inr (.inr (hat ▸ hf)))
      · dsimp only at hf
        rw [hat] at hf
        injection hf with hf
        omega
theorem DevIs.setLeft {w : World} {r : DRef} {D : Dev} (H : DevIs w r D) (n : Nat) (hn : n < 9223372036854775808) : DevIs (w.setCell ⟨r.b, 4, none⟩ (.int .i64 n)) r { D with left := n } ∧ Fr w (w.setCell ⟨r.b, 4, none⟩ (.int .i64 n)) r.foot := by
  have e1 : r.bf ≠ r.b := fun e => ne_of_elem H.hf H.hb (by decide) e
  have e2 : r.bn ≠ r.b := fun e => ne_of_elem H.hn H.hb (by decide) e
  have hset := heap_setCell_same w r.b 4 _ _ (.int .i64 n) H.hb
  refine ⟨⟨⟨H.ok.len, H.ok.pos, H.ok.top, H.ok.f64, H.ok.n64, H.ok.l64, H.ok.lat, hn⟩, ?_, ?_, ?_, ?_, H.ne⟩, (Fr.refl _ _).setCell _ _ (fun _ => .inl rfl)⟩
  · simpa using hset
  · exact (Below.heap_setCell _ _ _ _ e1).trans H.hf
  · exact (Below.heap_setCell _ _ _ _ e2).trans H.hn
  · exact ownsRow_setCell_other H.hl (a := ⟨r.b, 4, none⟩) (fun e => own_ne H.hl H.hb (by decide) e rfl) _
theorem DStep.trans {w w1 w2 : World} {r r1 r2 : DRef} (h : DStep w r w1 r1) (k : DStep w1 r1 w2 r2) : DStep w r w2 r2 :=
  ⟨k.b.trans h.b, h.fr.trans k.fr h.sub, fun i hi hf => h.sub i hi (k.sub i (Nat.lt_of_lt_of_le hi h.fr.size) hf)⟩
theorem DStep.of_fr {w w1 : World} {r : DRef} (h : Fr w w1 r.foot) : DStep w r w1 r := ⟨rfl, h, fun _ _ h => h⟩
theorem wpStill_load {P : Program} {ops : Array Oper} {rest : List Oper} {o : Oper} {a : Act} {Q : Act → Prop} {w : World} (hgd : o.guard = none) (t : TypeId) (x : Operand) (ho : o.op = .load t x)
    (v u : Value) (hx : a.eval x = v) (hr : (Instr.loadAt t v).run P w = .ok u w) (h : wpStill P ops w Q rest (a.put o.dst u)) : wpStill P ops w Q (o :: rest) a := by
  refine wpStill_step fun K hK => ?_
  have hw : Region.wanted o (yielded ops a.tmps) = true := by simp [Region.wanted, hgd]
  rw [if_pos hw]
  unfold Oper.still execOp
  simp only [ho, hx, Sem.run_bind, Sem.run_pure, Result.andThen_ok, hr]
  exact ⟨rfl, hK _ h⟩
def Dev.set (D : Dev) (i : Nat) (b : Blk) : Dev := { D with now := D.now.set i b }
theorem Dev.set_ok {D : Dev} (h : D.Ok) (i : Nat) (b : Blk) (hb : b.length = 64) : (D.set i b).Ok :=
  ⟨by simpa [set] using h.len, by simpa [set] using h.pos, by simpa [set] using h.top, h.f64, by
    intro x hx
    rcases List.mem_or_eq_of_mem_set hx with hx | rfl
    · exact h.n64 x hx
    · exact hb, h.l64, by simpa [set] using h.lat, h.lft⟩
theorem DevIs.setRow {w : World} {r : DRef} {D : Dev} (h : DevIs w r D) (i : Nat) (b : Blk) (hb : b.length = 64) :
    DevIs (w.setRow r.bn (rowOf (D.now.set i b))) r (D.set i b) ∧ Fr w (w.setRow r.bn (rowOf (D.now.set i b))) (· = r.bn) := by
  have n1 : r.b ≠ r.bn := ne_of_elem h.hb h.hn (by decide)
  have hF : Fr w (w.setRow r.bn (rowOf (D.now.set i b))) (· = r.bn) := ⟨rfl, rfl, rfl, by simp, fun k hk hn => setRow_other _ _ _ _ hn⟩
  refine ⟨⟨Dev.set_ok h.ok i b hb, ?_, hF.heap h.hf h.ne, setRow_heap _ _ _ _ _ _ h.hn, hF.owns h.hl (fun k hk => own_ne h.hl h.hn (by decide) hk), h.ne⟩, hF⟩
  have := hF.heap h.hb n1
  simpa [Dev.set] using this
def WPost (r : DRef) (D : Dev) (i : Nat) (s : ByteArray) (w : World) (e : Ending) (w' : World) : Prop := e = .returned (.int .i64 0) ∧ ∃ r', DevIs w' r' (D.write i s) ∧ DStep w r w' r'
theorem WPost.mk0 {r r' : DRef} {D : Dev} {i : Nat} {s : ByteArray} {w w' : World} (hl : D.lim = false) (h : DevIs w' r' { D.set i (padB s) with log := (D.set i (padB s)).log ++ [(i, padB s)] }) (k : DStep w r w' r') : WPost r D i s w (.returned (.int .i64 0)) w' := by
  refine ⟨rfl, r', ?_, k⟩
  have : D.write i s = { D.set i (padB s) with log := (D.set i (padB s)).log ++ [(i, padB s)] } := by simp [Dev.write, Dev.set, hl]
  rw [this]; exact h
theorem WPost.mk1 {r r' : DRef} {D : Dev} {i : Nat} {s : ByteArray} {w w' : World} (hl : D.lim = true) (h : DevIs w' r' { D.set i (padB s) with log := (D.set i (padB s)).log ++ [(i, padB s)], left := D.left - 1 }) (k : DStep w r w' r') : WPost r D i s w (.returned (.int .i64 0)) w' := by
  refine ⟨rfl, r', ?_, k⟩
  have : D.write i s = { D.set i (padB s) with log := (D.set i (padB s)).log ++ [(i, padB s)], left := D.left - 1 } := by simp [Dev.write, Dev.set, hl]
  rw [this]; exact h
set_option maxHeartbeats 1000000 in
set_option maxRecDepth 100000 in
theorem Write_any (r : DRef) (D : Dev) (i : Nat) (s : ByteArray) (w : World) (h : DevIs w r D) (hi : i < D.now.length) (hs : s.size ≤ 64) (hl : D.lim = true → D.left ≠ 0) (hlog : D.log.length ≤ 1000000000) :
    Calls Tryz.prog 37 #[.pointer (some ⟨r.b, 0, none⟩), .int .i64 i, .string s] w (WPost r D i s w) := by
  have c2 := h.c2
  have c3 := h.c3
  have c4 := h.c4
  have hi' : (i : Int) < (D.now.length : Int) := by omega
  have hs' : ¬ (64 : Int) < (s.size : Int) := by omega
  have ht := h.ok.top
  have H := Lib.hid h
  clear h
  rcases hlim : D.lim with _ | _
  all_goals
    rw [hlim] at c3
    try have hb0 : ((D.left : Int) == 0) = false := by have := hl hlim; simpa using this
    have HL := Lib.hid hlim
    clear hlim hl
    go_enter Tryz.func37, Tryz.ntmps37
    go_wp2_with fail
    obtain ⟨w2, hcp, hb2, hf2, hs2⟩ := copied_b w s hs
    rw [← zc_def, hcp]
    simp only [Result.andThen_ok]
    have H2 := Lib.hid (H.out.fr hf2 (fun _ _ h => h))
    have HB2 := Lib.hid hb2
    have HF2 := Lib.hid hf2
    clear hcp hb2 hf2 c2 c3 c4
    have d2 := H2.out.c2
    have d1 := H2.out.c1
    have d3 := H2.out.c3
    rw [HL.out] at d3
    have hpl := padB_len hs
    have hbs := brow_size hpl
    have hb2 := HB2.out
    go_wp2
    refine wp_region_still_tail 7 (by kernel_rfl) (by kernel_rfl) ?_
    simp only [List.take_succ_cons, List.take_zero, List.drop_succ_cons, List.drop_zero]
    change wpStill _ _ w2.drew _ _ _
    still_step
    still_step
    still_step
    still_step
    still_step
    refine wpStill_load rfl 108 _ rfl _ _ rfl (run_load_blk w2.drew w.heap.size (padB s) hb2 hbs) ?_
    still_step
    refine wpStill_nil ?_
    change wpList _ _ _ _ _ w2.drew
    have H2d : DevIs w2.drew r D := ⟨H2.out.ok, H2.out.hb, H2.out.hf, H2.out.hn, H2.out.hl, H2.out.ne⟩
    refine wpList_store_run rfl 108 _ _ rfl _ _ rfl rfl (store_blk H2d i (padB s) hi hpl) ?_
    obtain ⟨hd3, hf3⟩ := H2d.setRow i (padB s) hpl
    have hb3 : (w2.drew.setRow r.bn (rowOf (D.now.set i (padB s)))).heap[w.heap.size]? = some (.cells (brow (padB s)) 108 (0, 0)) := hf3.heap hb2 (fun e => by have := H.out.lt (k := r.bn) (.inr (.inr (.inl rfl))); omega)
    have hf3' : Fr w (w2.drew.setRow r.bn (rowOf (D.now.set i (padB s)))) r.foot := (HF2.out.drew.mono (fun _ _ h => h.elim)).trans hf3 (fun k _ h => .inr (.inr (.inl h)))
    have hs3 : (w2.drew.setRow r.bn (rowOf (D.now.set i (padB s)))).heap.size = w.heap.size + 1 := by simp [hs2]
    have H3 := Lib.hid hd3
    have HF3 := Lib.hid hf3'
    clear hd3 hf3 hf3' H2d H2 HB2 HF2 hb2 d1 d2 d3 hs2
    generalize w2.drew.setRow r.bn (rowOf (D.now.set i (padB s))) = w3 at *
    clear w2
    have d1 := H3.out.c1
    have d3 := H3.out.c3
    have d4 := H3.out.c4
    have f1 := H3.out.fz 1
    have e3 : (D.set i (padB s)).lim = D.lim := rfl
    rw [e3, HL.out] at d3
    clear e3
    obtain ⟨i0, hi0, hz0, hz1, hz2⟩ := info_parts info_wr
    go_wp2
    refine region_seq (fun w' => w'.cell? ⟨r.b, 1, none⟩ = some r.vl ∧ w'.heap[w.heap.size]? = some (.cells (brow (padB s)) 108 (0, 0))) [12]
      [(.p, 0), (.p, 1), (.p, 2), (.p, 3), (.q, 4), (.p, 5), (.q, 6), (.p, 7), (.l, 8), (.l, 9), (.p, 10), (.p, 11), (.d, 12)] (by kernel_rfl) (by kernel_rfl) (by kernel_rfl) (by kernel_rfl) (fun d v c a w h => by cases d <;> exact h) ?_
    have hS : w3.drew.cell? ⟨r.b, 1, none⟩ = some r.vl ∧ w3.drew.heap[w.heap.size]? = some (.cells (brow (padB s)) 108 (0, 0)) := ⟨d1, hb3⟩
    (refine seq_p (N := some 49) rfl rfl (by rfl) ?_ (fun w' => ?_) ?_
     rotate_left
     · go_simp
       with_reducible rfl
     simp only [Act.put, List.setIfInBounds_toArray, List.set_cons_zero, List.set_cons_succ])
    (refine seq_p (N := some 50) rfl rfl (by rfl) ?_ (fun w' => ?_) ?_
     rotate_left
     · go_simp
       with_reducible rfl
     simp only [Act.put, List.setIfInBounds_toArray, List.set_cons_zero, List.set_cons_succ])
    (refine seq_p (N := some 51) rfl rfl (by rfl) ?_ (fun w' => ?_) ?_
     rotate_left
     · go_simp
       with_reducible rfl
     simp only [Act.put, List.setIfInBounds_toArray, List.set_cons_zero, List.set_cons_succ])
    (refine seq_p (N := some 52) rfl rfl (by rfl) ?_ (fun w' => ?_) ?_
     rotate_left
     · go_simp
       with_reducible rfl
     simp only [Act.put, List.setIfInBounds_toArray, List.set_cons_zero, List.set_cons_succ])
    (refine seq_q (N := some 53) rfl rfl (by rfl) ?_ ?_ hS ?_
     rotate_left
     · rintro w' ⟨s1, s2⟩
       go_simp
       with_reducible rfl
     simp only [Act.put, List.setIfInBounds_toArray, List.set_cons_zero, List.set_cons_succ])
    (refine seq_p (N := some 54) rfl rfl (by rfl) ?_ (fun w' => ?_) ?_
     rotate_left
     · go_simp
       with_reducible rfl
     simp only [Act.put, List.setIfInBounds_toArray, List.set_cons_zero, List.set_cons_succ])
    (refine seq_q (N := some 55) rfl rfl (by rfl) (.agg (brow (padB s))) ?_ hS ?_
     · rintro w' ⟨s1, s2⟩
       exact run_ld rfl rfl (run_load_blk w' w.heap.size (padB s) s2 hbs)
     simp only [Act.put, List.setIfInBounds_toArray, List.set_cons_zero, List.set_cons_succ])
    (refine seq_p (N := some 56) rfl rfl (by rfl) (.agg (wrow i (padB s))) (fun w' => ?_) ?_
     · exact run_bd (ps := #[(0, .int .i64 i), (1, .agg (brow (padB s)))]) rfl (by simp [Act.eval]) (run_build_wr w' i (padB s) hpl)
     simp only [Act.put, List.setIfInBounds_toArray, List.set_cons_zero, List.set_cons_succ])
    refine seq_l rfl (by rfl) (wp_bs (N := some 57) (ps := #[(0, .agg (wrow i (padB s)))]) rfl rfl (by simp [Act.eval]) (run_bs_wr _ i (padB s) hpl) ?_)
    simp only [Act.put, List.setIfInBounds_toArray, List.set_cons_zero, List.set_cons_succ]
    have hl3 : w.heap.size < w3.drew.heap.size := by have := lt_of_heap hb3; exact this
    have hbl : r.b < w3.heap.size := H3.out.lt (.inl rfl)
    refine ⟨fun _ => ⟨(Below.cell ((Below.refl _ _).alloc (Nat.le_refl _) _) (by exact hbl)).trans hS.1, (Below.heap_alloc _ _ _ hl3).trans hS.2⟩, ?_⟩
    refine seq_l rfl (by rfl) (wp_app1 (W := w3.drew) (N := some 58) (wrow i (padB s)) _ _ 69 110 (.agg zw) 65 72 0 rfl rfl Tryz.underlying69 info_wr zw_size (by omega) (by omega) r.vl D.log.length (D.log.flatMap wvals) rfl rfl (wrow_size hpl) (wrow_one i (padB s)) H3.out.hl (by omega) (by omega) ?_)
    intro v4 w4 hown4 hg4 hat4
    simp only [Act.put, List.setIfInBounds_toArray, List.set_cons_zero, List.set_cons_succ]
    have hn1 : r.vl.ownBlock ≠ some r.b := fun e => own_ne H3.out.hl H3.out.hb (by decide) e rfl
    have hn2 : r.vl.ownBlock ≠ some w.heap.size := fun e => own_ne H3.out.hl hb3 (by decide) e rfl
    refine ⟨fun _ => ⟨?_, ?_⟩, ?_⟩
    · exact (World.cell?_of_block (hg4.block _ hbl (fun e => hn1 e.symm))).trans d1
    · exact (hg4.block _ hl3 (fun e => hn2 e.symm)).trans hb3
    (refine seq_p (N := some 59) rfl rfl (by rfl) ?_ (fun w' => ?_) ?_
     rotate_left
     · go_simp
       with_reducible rfl
     simp only [Act.put, List.setIfInBounds_toArray, List.set_cons_zero, List.set_cons_succ])
    (refine seq_p (N := some 60) rfl rfl (by rfl) ?_ (fun w' => ?_) ?_
     rotate_left
     · go_simp
       with_reducible rfl
     simp only [Act.put, List.setIfInBounds_toArray, List.set_cons_zero, List.set_cons_succ])
    refine seq_d rfl (by rfl) (wp_st rfl rfl rfl rfl (store1 _ _ r.b 1 v4 r.vl (own_cell hown4) (by kernel_rfl) ((World.cell?_of_block (hg4.block _ hbl (fun e => hn1 e.symm))).trans d1) ((World.frozen?_of_block (hg4.block _ hbl (fun e => hn1 e.symm))).trans f1)) ?_)
    refine seq_nil ?_
    obtain ⟨hd5, hst5⟩ := H3.out.pushed i (padB s) hpl (by simpa [Dev.set] using hi) hown4 ⟨hg4.os, hg4.tape, hg4.output, hg4.size, hg4.block⟩ hat4
    have H5 := Lib.hid hd5
    have HS5 := Lib.hid hst5
    clear hd5 hst5 hown4 hg4 hat4 hS hb3 d1 d3 d4 f1
    generalize w4.setCell ⟨r.b, 1, none⟩ v4 = w5 at *
    have e5 : DStep w r w5 ⟨r.b, r.bf, r.bn, v4⟩ := (DStep.of_fr HF3.out).trans HS5.out
    have E5 := Lib.hid e5
    have d3 := H5.out.c3
    have d4 := H5.out.c4
    have f4 : w5.frozen? ⟨r.b, 4, none⟩ = false := H5.out.fz 4
    have e3 : (D.set i (padB s)).lim = D.lim := rfl
    have e4 : (D.set i (padB s)).left = D.left := rfl
    simp only [e3, e4, HL.out] at d3 d4
    clear e5 e3 e4 H3 HF3 HS5
    go_wp2
    go_ret
    first
    | exact WPost.mk0 HL.out H5.out E5.out
    | (have hlt := H.out.ok.lft
       have hc : wrap64 ((D.left : Int) - 1) = ((D.left - 1 : Nat) : Int) := by simp at hb0; unfold wrap64; omega
       rw [hc]
       obtain ⟨h6, f6⟩ := H5.out.setLeft (D.left - 1) (by omega)
       exact WPost.mk1 HL.out h6 (E5.out.trans (DStep.of_fr f6)))
end Go.Proofs.YtjflcpkmoamijaaGreatDoor
namespace Go.Proofs.YtjflcpkmoamijaaGreatDoor
open Go.RowKit
set_option linter.unusedVariables false
set_option linter.unusedSimpArgs false
set_option linter.unnecessarySimpa false

set_option maxHeartbeats 400000 in
set_option maxRecDepth 100000 in
theorem Write_full (r : DRef) (D : Dev) (i : Nat) (s : ByteArray) (w : World) (h : DevIs w r D) (hi : i < D.now.length) (hs : s.size ≤ 64) (hl : D.lim = true) (h0 : D.left = 0) :
    Calls Tryz.prog 37 #[.pointer (some ⟨r.b, 0, none⟩), .int .i64 i, .string s] w fun e w' => e = .returned (.int .i64 20) ∧ w' = w := by
  have c2 := h.c2
  have c3 := h.c3
  have c4 := h.c4
  have hi' : (i : Int) < (D.now.length : Int) := by omega
  have hs' : ¬ (64 : Int) < (s.size : Int) := by omega
  have ht := h.ok.top
  clear h
  rw [hl] at c3
  rw [h0] at c4
  clear hl h0
  go_enter Tryz.func37, Tryz.ntmps37
  go_wp2
  go_ret
  exact ⟨rfl, rfl⟩
def Dev.limit (D : Dev) (n : Int) : Dev := { D with lim := true, left := (max n 0).toNat }
def LPost (r : DRef) (D : Dev) (w : World) (e : Ending) (w' : World) : Prop := e = .returned (.tuple #[]) ∧ DevIs w' r D ∧ Fr w w' r.foot
set_option maxHeartbeats 400000 in
set_option maxRecDepth 100000 in
theorem Limit_any (r : DRef) (D : Dev) (n : Int) (w : World) (h : DevIs w r D) (hn : n < 9223372036854775808) :
    Calls Tryz.prog 33 #[.pointer (some ⟨r.b, 0, none⟩), .int .i64 n] w (LPost r (D.limit n) w) := by
  have c3 := h.c3
  have c4 := h.c4
  have f3 := h.fz 3
  have f4 := h.fz 4
  have HN := Lib.hid hn
  have H := Lib.hid h
  clear h hn
  go_enter Tryz.func33, Tryz.ntmps33
  go_wp2
  all_goals
    go_end0
    have e1 : r.bf ≠ r.b := fun e => ne_of_elem H.out.hf H.out.hb (by decide) e
    have e2 : r.bn ≠ r.b := fun e => ne_of_elem H.out.hn H.out.hb (by decide) e
    have e3 : r.vl.ownBlock ≠ some r.b := fun e => own_ne H.out.hl H.out.hb (by decide) e rfl
    have hn' := HN.out
    refine ⟨rfl, ⟨⟨H.out.ok.len, H.out.ok.pos, H.out.ok.top, H.out.ok.f64, H.out.ok.n64, H.out.ok.l64, H.out.ok.lat, by show (max n 0).toNat < _; omega⟩, ?_, ?_, ?_, ?_, H.out.ne⟩, ((Fr.refl _ _).setCell _ _ (fun _ => .inl rfl)).setCell _ _ (fun _ => .inl rfl)⟩
    · have s1 := heap_setCell_same w r.b 3 _ _ (.bool true) H.out.hb
      have s2 := fun v => heap_setCell_same _ r.b 4 _ _ v s1
      have e4 : max n 0 = (((max n 0).toNat : Nat) : Int) := by omega
      rw [s2, e4]
      simp [Dev.limit]
    · exact (Below.heap_setCell _ _ _ _ e1).trans ((Below.heap_setCell _ _ _ _ e1).trans H.out.hf)
    · exact (Below.heap_setCell _ _ _ _ e2).trans ((Below.heap_setCell _ _ _ _ e2).trans H.out.hn)
    · exact ownsRow_setCell_other (ownsRow_setCell_other H.out.hl (a := ⟨r.b, 3, none⟩) e3 _) (a := ⟨r.b, 4, none⟩) e3 _

theorem run_copy_blocks (w : World) (g bs : Nat) (l : List Blk) (h64 : ∀ x ∈ l, x.length = 64) (cur : Array Value) (hcur : cur.size = l.length * 64)
    (hg : w.heap[g]? = some (.cells cur 108 (0, 0))) (hb : w.heap[bs]? = some (.cells (rowOf l) 108 (0, 0))) (ty : TypeId) :
    (Builtin.copy_ #[68, 68] ty #[.slice (some ⟨g, 0, none⟩) l.length l.length, .slice (some ⟨bs, 0, none⟩) l.length l.length]).run Tryz.prog w = .ok (goInt l.length) (w.setRow g (rowOf l)) := by
  have hlen : (rowOf l).toList.length = l.length * 64 := by unfold rowOf; simp only []; exact flat_len bvals 64 l (fun x hx => by rw [bvals_len]; exact h64 x hx)
  have hf := run_firstCells_some (P := Tryz.prog) w 64 l.length ⟨bs, 0, none⟩ l.length l.length (rowOf l).toList hlen (fun j v hv => by
    rw [Addr.add_mid, cell_of_row w bs _ _ _ _ hb]; simpa using hv)
  have hst := run_storeCells_at Tryz.prog g 0 108 (rowOf l).toList 0 cur w hg (by rw [hlen, hcur]; omega) (by
    intro v hv
    simp only [rowOf, List.mem_flatMap] at hv
    obtain ⟨x, _, hx⟩ := hv
    obtain ⟨c, _, rfl⟩ := List.mem_map.1 hx
    rfl)
  have hset : ((cur.toList.take (0 + 0) ++ (rowOf l).toList ++ cur.toList.drop (0 + 0 + (rowOf l).toList.length)).toArray) = rowOf l := by
    rw [List.drop_of_length_le (by rw [hlen]; simp; omega)]; simp
  rw [hset] at hst
  have hi : (Tryz.prog.info? 108).map (·.size) = some 64 := by kernel_rfl
  cases hq : Tryz.prog.info? 108 with
  | none => simp [hq] at hi
  | some i0 =>
    have hs : i0.size = 64 := by simpa [hq] using hi
    simp only [Array.toArray_toList] at hf
    simp [Builtin.copy_, run_underlying Tryz.underlying68, Builtin.lenOf, sizeOf, typeInfo, hq, hs, hf, hst, goInt]
def CPost (l : List Blk) (w : World) (e : Ending) (w' : World) : Prop :=
  e = .returned (.slice (some ⟨w.heap.size, 0, none⟩) l.length l.length) ∧ w'.heap[w.heap.size]? = some (.cells (rowOf l) 108 (0, 0)) ∧ Fr w w' Nowhere ∧ w'.heap.size = w.heap.size + 1
set_option maxHeartbeats 400000 in
set_option maxRecDepth 100000 in
theorem copied_any (bs : Nat) (l : List Blk) (w : World) (h64 : ∀ x ∈ l, x.length = 64) (hl : l.length ≤ 65536) (hb : w.heap[bs]? = some (.cells (rowOf l) 108 (0, 0))) :
    Calls Tryz.prog 66 #[.slice (some ⟨bs, 0, none⟩) l.length l.length] w (CPost l w) := by
  have hmk := make_blocks l.length hl
  have hlt := lt_of_heap hb
  have hcp := run_copy_blocks (w.alloc (.cells (rowOf (List.replicate l.length zeroBlk)) 108)) w.heap.size bs l h64 _ (by rw [row_zero]; simp) (heap_alloc_new w _) (by rw [Below.heap_alloc _ _ _ hlt]; exact hb) 3
  have hF : Hid (CPost l w (.returned (.slice (some ⟨w.heap.size, 0, none⟩) l.length l.length)) ((w.alloc (.cells (rowOf (List.replicate l.length zeroBlk)) 108)).setRow w.heap.size (rowOf l))) := by
    refine ⟨rfl, setRow_heap _ _ _ _ _ _ (heap_alloc_new w _), ?_, by simp⟩
    exact ⟨rfl, rfl, rfl, by simp, fun k hk _ => by rw [setRow_other _ _ _ _ (by omega)]; exact Below.heap_alloc w _ k hk⟩
  generalize rowOf (List.replicate l.length zeroBlk) = R at *
  go_enter Tryz.func66, Tryz.ntmps66
  go_wp2_with fail
  go_ret
  exact hF.out
end Go.Proofs.YtjflcpkmoamijaaGreatDoor
namespace Go.Proofs.YtjflcpkmoamijaaGreatDoor
open Go.RowKit
set_option linter.unusedVariables false
set_option linter.unusedSimpArgs false
set_option linter.unnecessarySimpa false

/-- The blocks behind some writes. -/
def redo (l : List Blk) (g : List (Nat × Blk)) : List Blk := g.foldl (fun l x => l.set x.1 x.2) l
def Dev.upto (D : Dev) (n : Int) : Nat := (min (max n 0) D.log.length).toNat
def Dev.after (D : Dev) (n : Int) : Dev := ⟨redo D.first (D.log.take (D.upto n)), [], redo D.first (D.log.take (D.upto n)), false, 0⟩
theorem redo_len (l : List Blk) (g : List (Nat × Blk)) : (redo l g).length = l.length := by
  unfold redo
  induction g generalizing l with
  | nil => rfl
  | cons x g ih => rw [List.foldl_cons, ih]; simp
theorem redo_64 (l : List Blk) (g : List (Nat × Blk)) (hl : ∀ x ∈ l, x.length = 64) (hg : ∀ x ∈ g, x.2.length = 64) : ∀ x ∈ redo l g, x.length = 64 := by
  unfold redo
  induction g generalizing l with
  | nil => exact hl
  | cons y g ih =>
    rw [List.foldl_cons]
    refine ih _ ?_ (fun x hx => hg x (by simp [hx]))
    intro x hx
    rcases List.mem_or_eq_of_mem_set hx with hx | rfl
    · exact hl x hx
    · exact hg y (by simp)
theorem redo_snoc (l : List Blk) (g : List (Nat × Blk)) (k : Nat) (h : k < g.length) : redo l (g.take (k + 1)) = (redo l (g.take k)).set (g[k]).1 (g[k]).2 := by
  unfold redo
  rw [List.take_succ_eq_append_getElem h, List.foldl_append]
  rfl

theorem Fr.setRow {a b : World} {S : Nat → Prop} (h : Fr a b S) (g : Nat) (cs : Array Value) (hg : g < a.heap.size → S g) : Fr a (b.setRow g cs) S :=
  ⟨h.os, h.tape, h.output, by simpa using h.size, fun i hi hn => by
    have hne : i ≠ g := fun e => hn (by subst e; exact hg hi)
    exact (setRow_other _ _ _ _ hne).trans (h.block i hi hn)⟩
theorem after_is {w5 : World} {D : Dev} (hD : D.Ok) (n : Int) (nb bf bn m : Nat) (hm : D.upto n = m) (hnb : nb = w5.heap.size) (hne : bf ≠ bn) (hbf : w5.heap[bf]? = some (.cells (rowOf (redo D.first (D.log.take m))) 108 (0, 0)))
    (hbn : w5.heap[bn]? = some (.cells (rowOf (redo D.first (D.log.take m))) 108 (0, 0))) :
    DevIs (w5.alloc (.cells #[.slice (some ⟨bf, 0, none⟩) D.first.length D.first.length, .slice none 0 0, .slice (some ⟨bn, 0, none⟩) D.first.length D.first.length, .bool false, .int .i64 0] 71)) ⟨nb, bf, bn, .slice none 0 0⟩ (D.after n) := by
  subst hnb
  have hl : (D.after n).now.length = D.first.length := redo_len _ _
  have e : (D.after n).now = redo D.first (D.log.take m) := by rw [← hm]; rfl
  have e' : (D.after n).first = redo D.first (D.log.take m) := by rw [← hm]; rfl
  have h64 := redo_64 D.first (D.log.take m) hD.f64 (fun x hx => hD.l64 x (List.mem_of_mem_take hx))
  refine ⟨⟨?_, ?_, ?_, ?_, ?_, ?_, ?_, ?_⟩, ?_, ?_, ?_, World.ownsRow_nil _ _ _ _, hne⟩
  · rw [e, e']
  · rw [hl, hD.len]; exact hD.pos
  · rw [hl, hD.len]; exact hD.top
  · rw [e']; exact h64
  · rw [e]; exact h64
  · intro x hx; cases hx
  · intro x hx; cases hx
  · show 0 < _; omega
  · rw [hl]; exact heap_alloc_new w5 _
  · rw [e', Below.heap_alloc _ _ _ (lt_of_heap hbf)]; exact hbf
  · rw [e, Below.heap_alloc _ _ _ (lt_of_heap hbn)]; exact hbn
theorem DevIs.logAt {w : World} {r : DRef} {D : Dev} (h : DevIs w r D) {g n c : Nat} (hv : r.vl = .slice (some ⟨g, 0, none⟩) n c) (k : Nat) (hk : k < D.log.length) : w.rangeAt g (k * 65) (wvals (D.log[k])) := by
  intro j v hj
  have hl := h.hl
  rw [hv] at hl
  have h65 : ∀ x ∈ D.log, (wvals x).length = 65 := fun x hx => by rw [wvals_len, h.ok.l64 x hx]
  have hj' : j < 65 := by have := (List.getElem?_eq_some_iff.1 hj).1; rw [h65 _ (List.getElem_mem hk)] at this; exact this
  have := hl.cells (g := g) rfl (k * 65 + j) v (by rw [flat_get wvals 65 D.log k j h65 hk hj']; exact hj)
  rwa [Addr.add_mid, Nat.zero_add] at this
/-- The copy of one write, in a block of its own. -/
theorem wr_facts (w : World) (i : Nat) (b : Blk) (hb : b.length = 64) : (w.alloc (.cells (wrow i b) 110)).cell? ⟨w.heap.size, 0, none⟩ = some (.int .i64 i) ∧
    (Instr.loadAt 108 (.pointer (some ⟨w.heap.size, 1, none⟩))).run Tryz.prog (w.alloc (.cells (wrow i b) 110)) = .ok (.agg (brow b)) (w.alloc (.cells (wrow i b) 110)) := by
  refine ⟨by rw [World.cell?_alloc_new]; simp [wrow, wvals], ?_⟩
  refine run_loadAt_mid _ _ _ 108 (bvals b) _ ?_ Tryz.underlying108 rfl (by rw [bvals_len, hb]; kernel_rfl)
  intro j v hj
  rw [World.cell?_alloc_new]
  simp only [wrow, wvals]
  rw [List.getElem?_toArray, Nat.add_comm, List.getElem?_cons_succ]
  exact hj
theorem store_row {w : World} {g : Nat} {l : List Blk} (hg : w.heap[g]? = some (.cells (rowOf l) 108 (0, 0))) (h64 : ∀ x ∈ l, x.length = 64) (i : Nat) (b : Blk) (hi : i < l.length) (hb : b.length = 64) :
    (Instr.storeAt 108 (.pointer (some ⟨g, i * 64, none⟩)) (.agg (brow b))).run Tryz.prog w = .ok () (w.setRow g (rowOf (l.set i b))) := by
  have hlen : (rowOf l).size = l.length * 64 := by unfold rowOf; rw [List.size_toArray, flat_len bvals 64 l (fun x hx => by rw [bvals_len]; exact h64 x hx)]
  have hst := run_storeCells_at Tryz.prog g (i * 64) 108 (bvals b) 0 (rowOf l) w hg (by rw [bvals_len, hb, hlen]; omega) (by
    intro v hv
    obtain ⟨c, _, rfl⟩ := List.mem_map.1 hv
    rfl)
  have hset : ((rowOf l).toList.take (i * 64) ++ bvals b ++ (rowOf l).toList.drop (i * 64 + 64)).toArray = rowOf (l.set i b) := by
    unfold rowOf
    rw [← flat_set bvals 64 l i b (fun x hx => by rw [bvals_len]; exact h64 x hx) hi]
  simp only [Nat.add_zero, bvals_len, hb, hset] at hst
  have hi : (Tryz.prog.info? 108).map (·.size) = some 64 := by kernel_rfl
  cases hq : Tryz.prog.info? 108 with
  | none => simp [hq] at hi
  | some i0 =>
    have hs : (brow b).size = i0.size := by rw [brow_size hb]; simp [hq] at hi; omega
    have hl : (brow b).toList = bvals b := by simp [brow]
    simp [Instr.storeAt, Instr.sureAddr, storeVar, sizeOf, typeInfo, hq, Value.cells, hs, hl, hst]

set_option maxHeartbeats 1000000 in
set_option maxRecDepth 100000 in
theorem After_any (r : DRef) (D : Dev) (n : Int) (w : World) (h : DevIs w r D) (hlog : D.log.length ≤ 1000000000) :
    Calls Tryz.prog 32 #[.pointer (some ⟨r.b, 0, none⟩), .int .i64 n] w (DPost (D.after n) w) := by
  have c0 := h.c0
  have c1 := h.c1
  have H := Lib.hid h
  have hlen := h.ok.len
  have htop := h.ok.top
  obtain ⟨A, c, hv, hcl⟩ : ∃ A c, r.vl = .slice A D.log.length c ∧ D.log.length ≤ c := by
    rcases h.hl.2 with ⟨hv, h0⟩ | ⟨g, cap, cur, hv, _, _, hc, _⟩
    · exact ⟨none, 0, by rw [hv, h0], by omega⟩
    · exact ⟨_, cap, hv, hc⟩
  rw [hv] at c1
  have HV := Lib.hid hv
  clear h hv
  rw [← hlen] at c0 htop
  have HL := Lib.hid hlen
  clear hlen
  have hfirst : (DevIs w r D) := H.out
  have hf0 := Lib.hid H.out.hf
  clear hfirst
  go_enter Tryz.func32, Tryz.ntmps32
  go_wp2_with (go_at_call 66; refine (copied_any r.bf D.first _ H.out.ok.f64 htop hf0.out).mono ?_; rintro e w1 ⟨rfl, hb1, hf1, hs1⟩)
  have d1 : w1.cell? ⟨r.b, 1, none⟩ = some (.slice A D.log.length c) := (World.cell?_of_block (hf1.block _ (H.out.lt (.inl rfl)) (fun h => h))).trans c1
  have H1 := Lib.hid (H.out.fr hf1 (fun _ _ h => h))
  have HB1 := Lib.hid hb1
  have HF1 := Lib.hid hf1
  clear hb1 hf1 c0 c1
  go_quiet (fail)
  obtain ⟨m, hm⟩ : ∃ m : Nat, (m : Int) = min (max n 0) (D.log.length : Int) := ⟨D.upto n, by unfold Dev.upto; omega⟩
  have hmm : max (m : Int) 0 = (m : Int) := by omega
  have hml : m ≤ D.log.length := by omega
  have hup : Hid (D.upto n = m) := by show D.upto n = m; unfold Dev.upto; omega
  rw [← hm]
  rw [hmm, Int.toNat_natCast]
  clear hm hmm
  have H2 : Hid (DevIs (w1.drewN nq) r D) := (H1.out.drewN nq)
  have HF2 : Hid (Fr w (w1.drewN nq) Nowhere) := HF1.out.drewN nq
  have HB2 : Hid ((w1.drewN nq).heap[w.heap.size]? = some (.cells (rowOf D.first) 108 (0, 0))) := HB1.out
  clear d1 H1 HB1 HF1
  generalize w1.drewN nq = w2 at *
  go_wp2
  go_loopw [29] (fun i wr => ∃ k : Nat, k ≤ m ∧ i = .int .i64 k ∧ Hid (Fr w wr Nowhere) ∧ Hid (wr.heap[w.heap.size]? = some (.cells (rowOf (redo D.first (D.log.take k))) 108 (0, 0)))) (fun i _ => m - (intOf i).toNat)
  case atStart => exact ⟨0, by omega, rfl, HF2.out, HB2.out⟩
  case round =>
    obtain ⟨k, hk, rfl, HFr, HBr⟩ := hrel
    by_cases hlt : k < m
    · have hlt' : (k : Int) < (m : Int) := by omega
      have hkl : k < D.log.length := by omega
      have hHr := Lib.hid (H2.out.fr (w := w2) (w' := w2) (Fr.refl _ Nowhere) (fun _ _ h => h))
      obtain ⟨g, rfl⟩ : ∃ g, A = some ⟨g, 0, none⟩ := by
        have h1 := H.out.hl.2
        rw [HV.out] at h1
        rcases h1 with ⟨_, h0⟩ | ⟨g, cap, cur, h1, _⟩
        · omega
        · injection h1 with h1
          exact ⟨g, h1⟩
      have hDr : DevIs wr r D := H.out.fr HFr.out (fun _ _ h => h)
      have hrg := Lib.hid (hDr.logAt HV.out k hkl)
      have hb64 := H.out.ok.l64 _ (List.getElem_mem hkl)
      have hat := H.out.ok.lat _ (List.getElem_mem hkl)
      have hsn := Lib.hid (redo_snoc D.first D.log k hkl)
      have h64 := Lib.hid (redo_64 D.first (D.log.take k) H.out.ok.f64 (fun x hx => H.out.ok.l64 x (List.mem_of_mem_take hx)))
      have hrl := redo_len D.first (D.log.take k)
      have hHL := HL.out
      generalize hx : D.log[k] = x at *
      obtain ⟨xi, xb⟩ := x
      have hxi : xi < (redo D.first (D.log.take k)).length := by rw [hrl, hHL]; exact hat
      have hXI : xi < D.first.length := by rw [hHL]; exact hat
      have HX := Lib.hid hx
      have HRL := Lib.hid hrl
      have hb64' : xb.length = 64 := hb64
      have HB64 := Lib.hid hb64'
      clear hx hrl hHL hHr hDr hb64 hb64' hat
      have hlt2 : w.heap.size < wr.heap.size := lt_of_heap HBr.out
      have hxi' : (xi : Int) < (D.first.length : Int) := by omega
      go_wp2_with (first
        | (refine wpList_load_run 110 _ rfl rfl _ _ rfl (run_loadAt_mid wr g (k * 65) 110 (wvals (xi, xb)) _ hrg.out Tryz.underlying110 rfl (by rw [wvals_len, HB64.out]; kernel_rfl)) ?_)
        | (refine wpList_store_run' 110 _ _ rfl rfl _ _ rfl rfl (run_storeAt_new wr 110 _ (wrow xi xb) (by rw [wrow_size HB64.out]; kernel_rfl) (by rw [wrow_size HB64.out]; rfl) (all_oneCell_toArray (by have := wrow_one xi xb; simpa [wrow] using this))) ?_
           obtain ⟨q1, q2⟩ := wr_facts wr xi xb HB64.out
           have q3 := Lib.hid q2
           have hFr3 := Lib.hid (HFr.out.alloc (.cells (wrow xi xb) 110))
           have hB3 : Hid ((wr.alloc (.cells (wrow xi xb) 110)).heap[w.heap.size]? = some (.cells (rowOf (redo D.first (D.log.take k))) 108 (0, 0))) := (Below.heap_alloc wr _ _ hlt2).trans HBr.out
           clear q2
           generalize wr.alloc (.cells (wrow xi xb) 110) = w3 at *)
        | (refine wpList_load_run 108 _ rfl rfl _ _ rfl q3.out ?_)
        | (refine wpList_store_run' 108 _ _ rfl rfl _ _ rfl rfl (store_row hB3.out h64.out xi xb hxi HB64.out) ?_))
      have hB4 := Lib.hid (setRow_heap _ _ _ (rowOf ((redo D.first (D.log.take k)).set xi xb)) _ _ hB3.out)
      have hF4 : Hid (Fr w (w3.setRow w.heap.size (rowOf ((redo D.first (D.log.take k)).set xi xb))) Nowhere) :=
        hFr3.out.setRow _ _ (fun h => absurd h (Nat.lt_irrefl _))
      go_roundw
      case rel => exact ⟨k + 1, by omega, by go_num, hF4.out, by rw [hsn.out]; exact hB4.out⟩
      case measure => simp [intOf]; omega
    · have hkm : k = m := by omega
      subst hkm
      have hl64 := redo_64 D.first (D.log.take k) H.out.ok.f64 (fun x hx => H.out.ok.l64 x (List.mem_of_mem_take hx))
      have hrl := redo_len D.first (D.log.take k)
      have hcp := copied_any w.heap.size (redo D.first (D.log.take k)) wr hl64 (by rw [hrl]; exact htop) HBr.out
      rw [hrl] at hcp
      have HCP := Lib.hid hcp
      have HRL := Lib.hid hrl
      have HL64 := Lib.hid hl64
      clear hcp hrl hl64
      go_wp2_with fail
      refine HCP.out.mono ?_
      rintro e w5 ⟨rfl, hb5, hf5, hs5⟩
      have hlt2 : w.heap.size < wr.heap.size := lt_of_heap HBr.out
      have hbn : w5.heap[w.heap.size]? = some (.cells (rowOf (redo D.first (D.log.take k))) 108 (0, 0)) := hf5.heap HBr.out (fun h => h)
      have hF5 := Lib.hid (HFr.out.tr hf5)
      have HB5 := Lib.hid hb5
      have HBN := Lib.hid hbn
      have hsz : w5.heap.size = wr.heap.size + 1 := hs5
      rw [HRL.out]
      have HFr1 := Lib.hid HFr.out
      clear hb5 hbn hf5 hs5 HCP HBr HFr HB2 HF2
      go_wp2
      go_ret
      exact ⟨_, rfl, after_is H.out.ok n _ _ _ k hup.out hsz.symm (by omega) HB5.out HBN.out, (hF5.out.alloc _).below (Nat.le_refl _) (fun _ h => h.elim), by
        have := HFr1.out.size
        intro j hj; rcases hj with rfl | rfl | rfl | hj <;> first | (dsimp only; omega) | (simp [Value.ownBlock] at hj)⟩
end Go.Proofs.YtjflcpkmoamijaaGreatDoor
