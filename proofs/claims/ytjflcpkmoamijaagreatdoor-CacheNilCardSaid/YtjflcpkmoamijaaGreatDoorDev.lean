import Derived.Test.YtjflcpkmoamijaaGreatDoorFlat
import Derived.Test.YtjflcpkmoamijaaGreatDoorPut
import Derived.Deep.MidRow
import Derived.Laws.MakeOwn
import Derived.BigRegion
import Derived.Deep.AppendLies
namespace Go.Proofs.YtjflcpkmoamijaaGreatDoor
open Go.RowKit
set_option linter.unusedVariables false
set_option linter.unusedSimpArgs false
set_option linter.unnecessarySimpa false

/-! ### A device -/
abbrev Blk := List UInt8
structure Dev where
  first : List Blk
  log : List (Nat × Blk)
  now : List Blk
  lim : Bool
  left : Nat
structure DRef where
  b : Nat
  bf : Nat
  bn : Nat
  vl : Value
def wvals (x : Nat × Blk) : List Value := .int .i64 x.1 :: bvals x.2
def rowOf (l : List Blk) : Array Value := (l.flatMap bvals).toArray
structure Dev.Ok (D : Dev) : Prop where
  len : D.first.length = D.now.length
  pos : 1 ≤ D.now.length
  top : D.now.length ≤ 65536
  f64 : ∀ x ∈ D.first, x.length = 64
  n64 : ∀ x ∈ D.now, x.length = 64
  l64 : ∀ x ∈ D.log, x.2.length = 64
  lat : ∀ x ∈ D.log, x.1 < D.now.length
  lft : D.left < 9223372036854775808
structure DevIs (w : World) (r : DRef) (D : Dev) : Prop where
  ok : D.Ok
  hb : w.heap[r.b]? = some (.cells #[.slice (some ⟨r.bf, 0, none⟩) D.now.length D.now.length, r.vl, .slice (some ⟨r.bn, 0, none⟩) D.now.length D.now.length, .bool D.lim, .int .i64 D.left] 71 (0, 0))
  hf : w.heap[r.bf]? = some (.cells (rowOf D.first) 108 (0, 0))
  hn : w.heap[r.bn]? = some (.cells (rowOf D.now) 108 (0, 0))
  hl : w.ownsRow 0 110 65 r.vl D.log.length (D.log.flatMap wvals)
  ne : r.bf ≠ r.bn
/-- The blocks of a device. -/
def DRef.foot (r : DRef) (k : Nat) : Prop := k = r.b ∨ k = r.bf ∨ k = r.bn ∨ r.vl.ownBlock = some k
theorem bvals_len (l : List UInt8) : (bvals l).length = l.length := by simp [bvals]
theorem wvals_len (x : Nat × Blk) : (wvals x).length = x.2.length + 1 := by simp [wvals, bvals]
theorem DevIs.c0 {w : World} {r : DRef} {D : Dev} (h : DevIs w r D) : w.cell? ⟨r.b, 0, none⟩ = some (.slice (some ⟨r.bf, 0, none⟩) D.now.length D.now.length) := cell_of_row w _ 0 _ _ _ h.hb
theorem DevIs.c1 {w : World} {r : DRef} {D : Dev} (h : DevIs w r D) : w.cell? ⟨r.b, 1, none⟩ = some r.vl := cell_of_row w _ 1 _ _ _ h.hb
theorem DevIs.c2 {w : World} {r : DRef} {D : Dev} (h : DevIs w r D) : w.cell? ⟨r.b, 2, none⟩ = some (.slice (some ⟨r.bn, 0, none⟩) D.now.length D.now.length) := cell_of_row w _ 2 _ _ _ h.hb
theorem DevIs.c3 {w : World} {r : DRef} {D : Dev} (h : DevIs w r D) : w.cell? ⟨r.b, 3, none⟩ = some (.bool D.lim) := cell_of_row w _ 3 _ _ _ h.hb
theorem DevIs.c4 {w : World} {r : DRef} {D : Dev} (h : DevIs w r D) : w.cell? ⟨r.b, 4, none⟩ = some (.int .i64 D.left) := cell_of_row w _ 4 _ _ _ h.hb
theorem DevIs.fz {w : World} {r : DRef} {D : Dev} (h : DevIs w r D) (i : Nat) : w.frozen? ⟨r.b, i, none⟩ = false := frozen_of_row w _ i _ _ h.hb
theorem DevIs.fr {w w' : World} {r : DRef} {D : Dev} {S : Nat → Prop} (h : DevIs w r D) (k : Fr w w' S) (hn : ∀ i, r.foot i → ¬ S i) : DevIs w' r D :=
  ⟨h.ok, k.heap h.hb (hn _ (.inl rfl)), k.heap h.hf (hn _ (.inr (.inl rfl))), k.heap h.hn (hn _ (.inr (.inr (.inl rfl)))), k.owns h.hl (fun i hi => hn _ (.inr (.inr (.inr hi)))), h.ne⟩
theorem DevIs.below {w w' : World} {r : DRef} {D : Dev} (h : DevIs w r D) (k : Below w.heap.size w w') : DevIs w' r D := h.fr (Fr.of_below k Nowhere) (fun _ _ h => h)
theorem DevIs.drewN {w : World} {r : DRef} {D : Dev} (h : DevIs w r D) (n : Nat) : DevIs (w.drewN n) r D := ⟨h.ok, h.hb, h.hf, h.hn, h.hl, h.ne⟩
theorem DevIs.lt {w : World} {r : DRef} {D : Dev} (h : DevIs w r D) {k : Nat} (hk : r.foot k) : k < w.heap.size := by
  rcases hk with rfl | rfl | rfl | hk
  · exact lt_of_heap h.hb
  · exact lt_of_heap h.hf
  · exact lt_of_heap h.hn
  · exact (h.hl.lt k hk).2

def zeroBlk : Blk := List.replicate 64 0
theorem zeroBlk_len : zeroBlk.length = 64 := by simp [zeroBlk]
def Dev.fresh (n : Nat) : Dev := ⟨List.replicate n zeroBlk, [], List.replicate n zeroBlk, false, 0⟩
theorem Dev.fresh_ok {n : Nat} (h1 : 1 ≤ n) (h2 : n ≤ 65536) : (Dev.fresh n).Ok :=
  ⟨by simp [fresh], by simpa [fresh] using h1, by simpa [fresh] using h2, by intro x hx; rw [(List.mem_replicate.1 hx).2]; exact zeroBlk_len,
   by intro x hx; rw [(List.mem_replicate.1 hx).2]; exact zeroBlk_len, by simp [fresh], by simp [fresh], by simp [fresh]⟩

theorem info_blk : (Tryz.prog.info? 108).map (fun i => (i.zero, i.size, i.bytes)) = some (some (.agg (Array.replicate 64 (.int .u8 0))), 64, 64) := by kernel_rfl
theorem made_zero (m : Nat) : madeCells (Array.replicate 64 (Value.int .u8 0)) m = (List.replicate m (Value.int .u8 0)).toArray := by
  apply Array.ext
  · simp [size_madeCells]
  · intro i h1 h2
    have : (i % 64) < 64 := Nat.mod_lt _ (by omega)
    simp [madeCells, this]
theorem row_zero (n : Nat) : rowOf (List.replicate n zeroBlk) = (List.replicate (n * 64) (Value.int .u8 0)).toArray := by
  unfold rowOf
  congr 1
  induction n with
  | zero => simp
  | succ n ih =>
    rw [List.replicate_succ, List.flatMap_cons, ih, Nat.succ_mul, Nat.add_comm, ← List.replicate_append_replicate]
    congr 1
theorem make_blocks (n : Nat) (hn : n ≤ 65536) (W : World) :
    (Instr.makeSlice 68 (.int .i64 n) (.int .i64 n)).run Tryz.prog W = .ok (.slice (some ⟨W.heap.size, 0, none⟩) n n) (W.alloc (.cells (rowOf (List.replicate n zeroBlk)) 108)) := by
  obtain ⟨i0, hi, hzz⟩ := Option.map_eq_some_iff.1 info_blk
  simp only [Prod.mk.injEq] at hzz
  obtain ⟨hz0, hz1, hz2⟩ := hzz
  have := run_make (P := Tryz.prog) W 68 108 i0 _ Tryz.underlying68 hi hz0 .i64 .i64 (n : Int) (n : Int) (by omega) (by omega) (by rw [hz2]; omega) (by omega)
  rw [hz1] at this
  simp only [Int.toNat_natCast, Value.cells, made_zero] at this
  rw [row_zero]
  exact this

def DPost (D : Dev) (w : World) (e : Ending) (w' : World) : Prop :=
  ∃ r : DRef, e = .returned (.pointer (some ⟨r.b, 0, none⟩)) ∧ DevIs w' r D ∧ Below w.heap.size w w' ∧ ∀ k, r.foot k → w.heap.size ≤ k
theorem fresh_is (n : Nat) (h1 : 1 ≤ n) (h2 : n ≤ 65536) (w : World) (bf bn : Nat) (h : (bf = w.heap.size ∧ bn = w.heap.size + 1) ∨ (bf = w.heap.size + 1 ∧ bn = w.heap.size)) :
    DevIs (((w.alloc (.cells (rowOf (List.replicate n zeroBlk)) 108)).alloc (.cells (rowOf (List.replicate n zeroBlk)) 108)).alloc
      (.cells #[.slice (some ⟨bf, 0, none⟩) n n, .slice none 0 0, .slice (some ⟨bn, 0, none⟩) n n, .bool false, .int .i64 0] 71)).drew ⟨w.heap.size + 1 + 1, bf, bn, .slice none 0 0⟩ (Dev.fresh n) := by
  have e0 : ∀ o : Obj, (((w.alloc (.cells (rowOf (List.replicate n zeroBlk)) 108)).alloc (.cells (rowOf (List.replicate n zeroBlk)) 108)).alloc o).heap[w.heap.size]? = some (.cells (rowOf (List.replicate n zeroBlk)) 108) := by
    intro o; rw [Below.heap_alloc _ _ _ (by simp; omega), Below.heap_alloc _ _ _ (by simp)]; exact heap_alloc_new w _
  have e1 : ∀ o : Obj, (((w.alloc (.cells (rowOf (List.replicate n zeroBlk)) 108)).alloc (.cells (rowOf (List.replicate n zeroBlk)) 108)).alloc o).heap[w.heap.size + 1]? = some (.cells (rowOf (List.replicate n zeroBlk)) 108) := by
    intro o; rw [Below.heap_alloc _ _ _ (by simp)]
    have := heap_alloc_new (w.alloc (.cells (rowOf (List.replicate n zeroBlk)) 108)) (.cells (rowOf (List.replicate n zeroBlk)) 108)
    simpa using this
  refine ⟨Dev.fresh_ok h1 h2, ?_, ?_, ?_, World.ownsRow_nil _ _ _ _, ?_⟩
  · have := heap_alloc_new ((w.alloc (.cells (rowOf (List.replicate n zeroBlk)) 108)).alloc (.cells (rowOf (List.replicate n zeroBlk)) 108))
      (.cells #[.slice (some ⟨bf, 0, none⟩) n n, .slice none 0 0, .slice (some ⟨bn, 0, none⟩) n n, .bool false, .int .i64 0] 71)
    simp only [World.size_alloc] at this
    simp only [Dev.fresh, List.length_replicate]
    exact this
  · rcases h with ⟨rfl, rfl⟩ | ⟨rfl, rfl⟩
    · exact e0 _
    · exact e1 _
  · rcases h with ⟨rfl, rfl⟩ | ⟨rfl, rfl⟩
    · exact e1 _
    · exact e0 _
  · dsimp only; omega
set_option maxHeartbeats 400000 in
theorem New_any (n : Nat) (w : World) (h1 : 1 ≤ n) (h2 : n ≤ 65536) :
    Calls Tryz.prog 10 #[.int .i64 n] w (DPost (Dev.fresh n) w) := by
  have hmk := make_blocks n h2
  have hi0 : ¬ ((n : Int) < 1) := by omega
  have hi1 : ¬ ((65536 : Int) < n) := by omega
  have hF0 := Lib.hid (fresh_is n h1 h2 w w.heap.size (w.heap.size + 1) (.inl ⟨rfl, rfl⟩))
  have hF1 := Lib.hid (fresh_is n h1 h2 w (w.heap.size + 1) w.heap.size (.inr ⟨rfl, rfl⟩))
  generalize rowOf (List.replicate n zeroBlk) = R at *
  go_enter Tryz.func10, Tryz.ntmps10
  go_wp2
  go_region
  · go_wp2
    go_ret
    exact ⟨_, rfl, hF0.out, ((((Below.refl _ _).alloc (Nat.le_refl _) _).alloc (by simp) _).alloc (by simp; omega) _).drew, by intro k hk; rcases hk with rfl | rfl | rfl | hk <;> first | (dsimp only; omega) | (simp [Value.ownBlock] at hk)⟩
  · go_wp2
    go_ret
    exact ⟨_, rfl, hF1.out, ((((Below.refl _ _).alloc (Nat.le_refl _) _).alloc (by simp) _).alloc (by simp; omega) _).drew, by intro k hk; rcases hk with rfl | rfl | rfl | hk <;> first | (dsimp only; omega) | (simp [Value.ownBlock] at hk)⟩
set_option maxHeartbeats 400000 in
theorem New_none (n : Int) (w : World) (h : n < 1 ∨ 65536 < n) :
    Calls Tryz.prog 10 #[.int .i64 n] w fun e w' => e = .returned (.pointer none) ∧ w' = w := by
  rcases h with h | h
  · go_enter Tryz.func10, Tryz.ntmps10
    go_wp2
    go_ret
    exact ⟨rfl, rfl⟩
  · have h' : ¬ n < 1 := by omega
    go_enter Tryz.func10, Tryz.ntmps10
    go_wp2
    go_ret
    exact ⟨rfl, rfl⟩
set_option maxHeartbeats 400000 in
theorem Blocks_any (r : DRef) (D : Dev) (w : World) (h : DevIs w r D) :
    Calls Tryz.prog 67 #[.pointer (some ⟨r.b, 0, none⟩)] w fun e w' => e = .returned (.int .i64 D.now.length) ∧ w' = w := by
  have c2 := h.c2
  go_enter Tryz.func67, Tryz.ntmps67
  go_wp2
  go_ret
  exact ⟨rfl, rfl⟩
set_option maxHeartbeats 400000 in
theorem Writes_any (r : DRef) (D : Dev) (w : World) (h : DevIs w r D) :
    Calls Tryz.prog 31 #[.pointer (some ⟨r.b, 0, none⟩)] w fun e w' => e = .returned (.int .i64 D.log.length) ∧ w' = w := by
  have c1 := h.c1
  obtain ⟨A, c, hv⟩ : ∃ A c, r.vl = .slice A D.log.length c := by
    rcases h.hl.2 with ⟨hv, h0⟩ | ⟨g, cap, cur, hv, _⟩
    · exact ⟨none, 0, by rw [hv, h0]⟩
    · exact ⟨_, cap, hv⟩
  rw [hv] at c1
  clear hv h
  go_enter Tryz.func31, Tryz.ntmps31
  go_wp2
  go_ret
  exact ⟨rfl, rfl⟩
end Go.Proofs.YtjflcpkmoamijaaGreatDoor
