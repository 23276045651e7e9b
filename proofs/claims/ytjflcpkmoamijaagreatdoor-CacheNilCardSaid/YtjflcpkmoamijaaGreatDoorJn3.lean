import Derived.Test.YtjflcpkmoamijaaGreatDoorJn2
import Derived.Test.YtjflcpkmoamijaaGreatDoorSeq
import Derived.Deep.LoopGhost
namespace Go.Proofs.YtjflcpkmoamijaaGreatDoor
open Go.RowKit
set_option linter.unusedVariables false
set_option linter.unusedSimpArgs false
set_option linter.unnecessarySimpa false

theorem wp_cl {P : Program} {o : Oper} {a : Act} {w : World} {K : Act → World → Prop} {Q : Exit → Act → World → Prop} {N : Option Tmp} {f : Nat} {args : Array Operand} {ts : Array TypeId} {vs : Array Value}
    (ho : o.op = .call { callee := .value (.func f), args := args, argTypes := ts }) (hN : o.dst = N) (hx : args.map a.eval = vs) (he : (callFunc f vs).run P w = .ok (.enter f vs) w)
    (hc : Calls P f vs w fun e w'' => ∃ v, e = .returned v ∧ K (a.put N v) w'') : o.wp P a w K Q := by
  subst hN
  have h : (execOp a.eval o).run P w = .ok (.enter f vs) w := by
    unfold execOp
    simp [ho, resolve, invoke, hx, he, Act.eval, Deferred.ofValue]
  unfold Oper.wp
  rw [h, Oper.upon_enter]
  refine hc.mono ?_
  rintro e w'' ⟨v, rfl, hk⟩
  exact hk

theorem info_str : (Tryz.prog.info? 9).map (fun i => (i.zero, i.size, i.bytes)) = some (some (.string ⟨#[]⟩), 1, 16) := by kernel_rfl
theorem run_bs_str (w : World) (s : ByteArray) :
    (Instr.buildSlice 22 1 #[(0, .string s)]).run Tryz.prog w = .ok (.slice (some ⟨w.heap.size, 0, none⟩) 1 1) (w.alloc (.cells #[.string s] 9)) := by
  obtain ⟨i0, hi, hzz⟩ := Option.map_eq_some_iff.1 info_str
  simp only [Prod.mk.injEq] at hzz
  obtain ⟨hz0, hz1, hz2⟩ := hzz
  simp only [Instr.buildSlice, Sem.run_bind, run_underlying Tryz.underlying22, Result.andThen_ok, sizeOf, typeInfo, zeroValue, hi, hz0, hz1, Sem.run_pure]
  simp [Value.cells, hz1, hz0, hi, Sem.run_bind, typeInfo, Instr.fill, newRow]
  have e : Array.range 1 = #[0] := by decide
  simp [e]
structure JIs (w : World) (B jb db : Nat) (vr : Value) (ep u : Nat) (recs : List ByteArray) : Prop where
  hb : w.heap[jb]? = some (.cells #[.pointer (some ⟨db, 0, none⟩), .int .i64 ep, .int .i64 u, vr] 77 (0, 0))
  hr : w.ownsRow B 9 1 vr recs.length (recs.map .string)
theorem JIs.c0 {w : World} {B jb db : Nat} {vr : Value} {ep u : Nat} {recs : List ByteArray} (h : JIs w B jb db vr ep u recs) : w.cell? ⟨jb, 0, none⟩ = some (.pointer (some ⟨db, 0, none⟩)) := cell_of_row w _ 0 _ _ _ h.hb
theorem JIs.c1 {w : World} {B jb db : Nat} {vr : Value} {ep u : Nat} {recs : List ByteArray} (h : JIs w B jb db vr ep u recs) : w.cell? ⟨jb, 1, none⟩ = some (.int .i64 ep) := cell_of_row w _ 1 _ _ _ h.hb
theorem JIs.c2 {w : World} {B jb db : Nat} {vr : Value} {ep u : Nat} {recs : List ByteArray} (h : JIs w B jb db vr ep u recs) : w.cell? ⟨jb, 2, none⟩ = some (.int .i64 u) := cell_of_row w _ 2 _ _ _ h.hb
theorem JIs.c3 {w : World} {B jb db : Nat} {vr : Value} {ep u : Nat} {recs : List ByteArray} (h : JIs w B jb db vr ep u recs) : w.cell? ⟨jb, 3, none⟩ = some vr := cell_of_row w _ 3 _ _ _ h.hb
theorem JIs.fz {w : World} {B jb db : Nat} {vr : Value} {ep u : Nat} {recs : List ByteArray} (h : JIs w B jb db vr ep u recs) (i : Nat) : w.frozen? ⟨jb, i, none⟩ = false := frozen_of_row w _ i _ _ h.hb
theorem JIs.lt {w : World} {B jb db : Nat} {vr : Value} {ep u : Nat} {recs : List ByteArray} (h : JIs w B jb db vr ep u recs) : jb < w.heap.size := lt_of_heap h.hb
def jfoot (jb : Nat) (vr : Value) (k : Nat) : Prop := k = jb ∨ vr.ownBlock = some k
theorem JIs.fr {w w' : World} {B jb db : Nat} {vr : Value} {ep u : Nat} {recs : List ByteArray} {S : Nat → Prop} (h : JIs w B jb db vr ep u recs) (k : Fr w w' S) (hn : ∀ i, jfoot jb vr i → ¬ S i) : JIs w' B jb db vr ep u recs :=
  ⟨k.heap h.hb (hn _ (.inl rfl)), k.owns h.hr (fun i hi => hn _ (.inr hi))⟩
theorem JIs.drewN {w : World} {B jb db : Nat} {vr : Value} {ep u : Nat} {recs : List ByteArray} (h : JIs w B jb db vr ep u recs) (n : Nat) : JIs (w.drewN n) B jb db vr ep u recs := ⟨h.hb, h.hr⟩
/-- The journal's blocks are no blocks of a device. -/
theorem jfoot_dev {w : World} {B jb db : Nat} {vr : Value} {ep u : Nat} {recs : List ByteArray} {r : DRef} {D : Dev} (h : JIs w B jb db vr ep u recs) (d : DevIs w r D) {i : Nat} (hi : jfoot jb vr i) : ¬ r.foot i := by
  intro hf
  rcases hi with rfl | hi
  · rcases hf with rfl | rfl | rfl | hf
    · exact ne_of_elem h.hb d.hb (by decide) rfl
    · exact ne_of_elem h.hb d.hf (by decide) rfl
    · exact ne_of_elem h.hb d.hn (by decide) rfl
    · exact own_ne d.hl h.hb (by decide) hf rfl
  · rcases hf with rfl | rfl | rfl | hf
    · exact own_ne h.hr d.hb (by decide) hi rfl
    · exact own_ne h.hr d.hf (by decide) hi rfl
    · exact own_ne h.hr d.hn (by decide) hi rfl
    · obtain ⟨c, hc⟩ := own_elem h.hr hi
      exact own_ne d.hl hc (by decide) hf rfl
theorem JIs.put {w : World} {B jb db : Nat} {vr : Value} {ep u : Nat} {recs : List ByteArray} (h : JIs w B jb db vr ep u recs) (i : Nat) (v : Value) {vr' : Value} {ep' u' : Nat}
    (hc : (#[.pointer (some ⟨db, 0, none⟩), .int .i64 ep, .int .i64 u, vr] : Array Value).setIfInBounds i v = #[.pointer (some ⟨db, 0, none⟩), .int .i64 ep', .int .i64 u', vr']) (hv : vr' = vr) : JIs (w.setCell ⟨jb, i, none⟩ v) B jb db vr' ep' u' recs := by
  subst hv
  have h1 := heap_setCell_same w jb i _ _ v h.hb
  have hne : vr'.ownBlock ≠ some jb := fun e => own_ne h.hr h.hb (by decide) e rfl
  refine ⟨?_, ownsRow_setCell_other h.hr (a := ⟨jb, i, none⟩) hne _⟩
  rw [h1, hc]
/-- A new record, laid into the field. -/
theorem JIs.push {w w2 : World} {B jb db : Nat} {vr v2 : Value} {ep u : Nat} {recs : List ByteArray} (h : JIs w B jb db vr ep u recs) (s : ByteArray) (hg : w.grownBy w2 vr.ownBlock)
    (ho : w2.ownsRow B 9 1 v2 (recs.length + 1) (recs.map .string ++ [.string s])) : JIs (w2.setCell ⟨jb, 3, none⟩ v2) B jb db v2 ep u (recs ++ [s]) := by
  have hne : vr.ownBlock ≠ some jb := fun e => own_ne h.hr h.hb (by decide) e rfl
  have h2 : w2.heap[jb]? = some (.cells #[.pointer (some ⟨db, 0, none⟩), .int .i64 ep, .int .i64 u, vr] 77 (0, 0)) := (hg.block _ h.lt (fun e => hne e.symm)).trans h.hb
  have h1 := heap_setCell_same w2 jb 3 _ _ v2 h2
  have hne2 : v2.ownBlock ≠ some jb := fun e => own_ne ho h2 (by decide) e rfl
  refine ⟨by rw [h1]; rfl, ?_⟩
  have := ownsRow_setCell_other ho (a := ⟨jb, 3, none⟩) hne2 v2
  simpa using this
def blkS (D : Dev) (i : Nat) : ByteArray := ⟨(blkAt D i).toArray⟩
theorem blkS_size {w : World} {r : DRef} {D : Dev} (h : DevIs w r D) {i : Nat} (hi : i < D.now.length) : (blkS D i).size = 64 := by
  have h64 := h.ok.n64 _ (List.getElem_mem hi)
  simp [blkS, blkAt, List.getD, List.getElem?_eq_getElem hi, ByteArray.size, h64]
set_option maxHeartbeats 400000 in
set_option maxRecDepth 100000 in
theorem block_any (r : DRef) (D : Dev) (jb i : Nat) (w : World) (h : DevIs w r D) (hc : w.cell? ⟨jb, 0, none⟩ = some (.pointer (some ⟨r.b, 0, none⟩))) (hi : i < D.now.length) :
    Calls Tryz.prog 69 #[.pointer (some ⟨jb, 0, none⟩), .int .i64 i] w fun e w' => e = .returned (.string (blkS D i)) ∧ w' = w := by
  have H := Lib.hid h
  clear h
  go_enter Tryz.func69, Tryz.ntmps69
  go_wp2_with (refine (DRead_any r D i _ H.out hi).mono ?_; rintro e w2 ⟨rfl, rfl⟩)
  go_ret
  exact ⟨rfl, rfl⟩
/-- The bytes of k blocks from block i on. -/
def catL (D : Dev) (i k : Nat) : List UInt8 := (List.range k).flatMap fun j => blkAt D (i + j)
theorem catL_zero (D : Dev) (i : Nat) : catL D i 0 = [] := rfl
theorem catL_succ (D : Dev) (i k : Nat) : catL D i (k + 1) = catL D i k ++ blkAt D (i + k) := by simp [catL, List.range_succ]
theorem catL_len {w : World} {r : DRef} {D : Dev} (h : DevIs w r D) (i : Nat) : ∀ k, i + k ≤ D.now.length → (catL D i k).length = 64 * k
  | 0, _ => rfl
  | k + 1, hk => by
    have := blkS_size h (i := i + k) (by omega)
    rw [catL_succ, List.length_append, catL_len h i k (by omega)]
    have h2 : (blkAt D (i + k)).length = 64 := by simpa [blkS, ByteArray.size] using this
    omega
def catS (D : Dev) (i k : Nat) : ByteArray := ⟨(catL D i k).toArray⟩
/-- The records from block 'at' on: how many blocks they take, and what they are; none: they have no form. -/
def scanP (D : Dev) (a h : Nat) : Nat → Nat → List ByteArray → Option (Nat × List ByteArray)
  | 0, u, l => some (u, l)
  | f + 1, u, l => if h ≤ u then some (u, l) else
    if byteAt (blkS D (a + u)) 0 = 0 then some (u, l) else
    match numJ ((blkS D (a + u)).extract 1 64) 4194304 with
    | none => none
    | some n => if byteAt (blkS D (a + u)) 0 ≠ 1 ∨ h < u + 1 + cnt n then none
      else scanP D a h f (u + 1 + cnt n) (l ++ [(catS D (a + u + 1) (cnt n)).extract 0 n])
def parseP (D : Dev) : Option (Nat × Nat × List ByteArray) :=
  if Lib.hasPrefix (blkS D 0).data.toList [77, 65, 80, 74] = false then none else
  match numJ ((blkS D 0).extract 4 64) 2147483647 with
  | none => none
  | some ep => (scanP D (fst0 D ep) (hlf D) (hlf D) 0 []).map fun x => (ep, x.1, x.2)
end Go.Proofs.YtjflcpkmoamijaaGreatDoor
