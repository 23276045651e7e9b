import Derived.Test.YtjflcpkmoamijaaGreatDoorDev2
namespace Go.Proofs.YtjflcpkmoamijaaGreatDoor
open Go.RowKit
set_option linter.unusedVariables false
set_option linter.unusedSimpArgs false
set_option linter.unnecessarySimpa false

set_option maxHeartbeats 400000 in
set_option maxRecDepth 100000 in
theorem Write_full (r : DRef) (D : Dev) (i : Nat) (s : ByteArray) (w : World) (h : DevIs w r D) (hi : i < D.now.length) (hs : s.size ≤ 64) (hl : D.lim = true) (h0 : D.left = 0) :
    Calls Tryz.prog 37 #[.pointer (some ⟨r.b, 0, none⟩), .int .i64 i, .string s] w fun e w' => e = .returned (.int .i64 20) ∧ w' = w := by
  have c2 := h.c2
  have c3 := h.c3
  have c4 := h.c4
  have hi' : (i : Int) < (D.now.length : Int) := by omega
  have hs' : ¬ (64 : Int) < (s.size : Int) := by omega
  have ht := h.ok.top
  clear h
  rw [hl] at c3
  rw [h0] at c4
  clear hl h0
  go_enter Tryz.func37, Tryz.ntmps37
  go_wp2
  go_ret
  exact ⟨rfl, rfl⟩
def Dev.limit (D : Dev) (n : Int) : Dev := { D with lim := true, left := (max n 0).toNat }
def LPost (r : DRef) (D : Dev) (w : World) (e : Ending) (w' : World) : Prop := e = .returned (.tuple #[]) ∧ DevIs w' r D ∧ Fr w w' r.foot
set_option maxHeartbeats 400000 in
set_option maxRecDepth 100000 in
theorem Limit_any (r : DRef) (D : Dev) (n : Int) (w : World) (h : DevIs w r D) (hn : n < 9223372036854775808) :
    Calls Tryz.prog 33 #[.pointer (some ⟨r.b, 0, none⟩), .int .i64 n] w (LPost r (D.limit n) w) := by
  have c3 := h.c3
  have c4 := h.c4
  have f3 := h.fz 3
  have f4 := h.fz 4
  have HN := Lib.hid hn
  have H := Lib.hid h
  clear h hn
  go_enter Tryz.func33, Tryz.ntmps33
  go_wp2
  all_goals
    go_end0
    have e1 : r.bf ≠ r.b := fun e => ne_of_elem H.out.hf H.out.hb (by decide) e
    have e2 : r.bn ≠ r.b := fun e => ne_of_elem H.out.hn H.out.hb (by decide) e
    have e3 : r.vl.ownBlock ≠ some r.b := fun e => own_ne H.out.hl H.out.hb (by decide) e rfl
    have hn' := HN.out
    refine ⟨rfl, ⟨⟨H.out.ok.len, H.out.ok.pos, H.out.ok.top, H.out.ok.f64, H.out.ok.n64, H.out.ok.l64, H.out.ok.lat, by show (max n 0).toNat < _; omega⟩, ?_, ?_, ?_, ?_, H.out.ne⟩, ((Fr.refl _ _).setCell _ _ (fun _ => .inl rfl)).setCell _ _ (fun _ => .inl rfl)⟩
    · have s1 := heap_setCell_same w r.b 3 _ _ (.bool true) H.out.hb
      have s2 := fun v => heap_setCell_same _ r.b 4 _ _ v s1
      have e4 : max n 0 = (((max n 0).toNat : Nat) : Int) := by omega
      rw [s2, e4]
      simp [Dev.limit]
    · exact (Below.heap_setCell _ _ _ _ e1).trans ((Below.heap_setCell _ _ _ _ e1).trans H.out.hf)
    · exact (Below.heap_setCell _ _ _ _ e2).trans ((Below.heap_setCell _ _ _ _ e2).trans H.out.hn)
    · exact ownsRow_setCell_other (ownsRow_setCell_other H.out.hl (a := ⟨r.b, 3, none⟩) e3 _) (a := ⟨r.b, 4, none⟩) e3 _

theorem run_copy_blocks (w : World) (g bs : Nat) (l : List Blk) (h64 : ∀ x ∈ l, x.length = 64) (cur : Array Value) (hcur : cur.size = l.length * 64)
    (hg : w.heap[g]? = some (.cells cur 108 (0, 0))) (hb : w.heap[bs]? = some (.cells (rowOf l) 108 (0, 0))) (ty : TypeId) :
    (Builtin.copy_ #[68, 68] ty #[.slice (some ⟨g, 0, none⟩) l.length l.length, .slice (some ⟨bs, 0, none⟩) l.length l.length]).run Tryz.prog w = .ok (goInt l.length) (w.setRow g (rowOf l)) := by
  have hlen : (rowOf l).toList.length = l.length * 64 := by unfold rowOf; simp only []; exact flat_len bvals 64 l (fun x hx => by rw [bvals_len]; exact h64 x hx)
  have hf := run_firstCells_some (P := Tryz.prog) w 64 l.length ⟨bs, 0, none⟩ l.length l.length (rowOf l).toList hlen (fun j v hv => by
    rw [Addr.add_mid, cell_of_row w bs _ _ _ _ hb]; simpa using hv)
  have hst := run_storeCells_at Tryz.prog g 0 108 (rowOf l).toList 0 cur w hg (by rw [hlen, hcur]; omega) (by
    intro v hv
    simp only [rowOf, List.mem_flatMap] at hv
    obtain ⟨x, _, hx⟩ := hv
    obtain ⟨c, _, rfl⟩ := List.mem_map.1 hx
    rfl)
  have hset : ((cur.toList.take (0 + 0) ++ (rowOf l).toList ++ cur.toList.drop (0 + 0 + (rowOf l).toList.length)).toArray) = rowOf l := by
    rw [List.drop_of_length_le (by rw [hlen]; simp; omega)]; simp
  rw [hset] at hst
  have hi : (Tryz.prog.info? 108).map (·.size) = some 64 := by kernel_rfl
  cases hq : Tryz.prog.info? 108 with
  | none => simp [hq] at hi
  | some i0 =>
    have hs : i0.size = 64 := by simpa [hq] using hi
    simp only [Array.toArray_toList] at hf
    simp [Builtin.copy_, run_underlying Tryz.underlying68, Builtin.lenOf, sizeOf, typeInfo, hq, hs, hf, hst, goInt]
def CPost (l : List Blk) (w : World) (e : Ending) (w' : World) : Prop :=
  e = .returned (.slice (some ⟨w.heap.size, 0, none⟩) l.length l.length) ∧ w'.heap[w.heap.size]? = some (.cells (rowOf l) 108 (0, 0)) ∧ Fr w w' Nowhere ∧ w'.heap.size = w.heap.size + 1
set_option maxHeartbeats 400000 in
set_option maxRecDepth 100000 in
theorem copied_any (bs : Nat) (l : List Blk) (w : World) (h64 : ∀ x ∈ l, x.length = 64) (hl : l.length ≤ 65536) (hb : w.heap[bs]? = some (.cells (rowOf l) 108 (0, 0))) :
    Calls Tryz.prog 66 #[.slice (some ⟨bs, 0, none⟩) l.length l.length] w (CPost l w) := by
  have hmk := make_blocks l.length hl
  have hlt := lt_of_heap hb
  have hcp := run_copy_blocks (w.alloc (.cells (rowOf (List.replicate l.length zeroBlk)) 108)) w.heap.size bs l h64 _ (by rw [row_zero]; simp) (heap_alloc_new w _) (by rw [Below.heap_alloc _ _ _ hlt]; exact hb) 3
  have hF : Hid (CPost l w (.returned (.slice (some ⟨w.heap.size, 0, none⟩) l.length l.length)) ((w.alloc (.cells (rowOf (List.replicate l.length zeroBlk)) 108)).setRow w.heap.size (rowOf l))) := by
    refine ⟨rfl, setRow_heap _ _ _ _ _ _ (heap_alloc_new w _), ?_, by simp⟩
    exact ⟨rfl, rfl, rfl, by simp, fun k hk _ => by rw [setRow_other _ _ _ _ (by omega)]; exact Below.heap_alloc w _ k hk⟩
  generalize rowOf (List.replicate l.length zeroBlk) = R at *
  go_enter Tryz.func66, Tryz.ntmps66
  go_wp2_with fail
  go_ret
  exact hF.out
end Go.Proofs.YtjflcpkmoamijaaGreatDoor
