import Derived.Test.YtjflcpkmoamijaaGreatDoorQi
namespace Go.Proofs.YtjflcpkmoamijaaGreatDoor
open Go.RowKit
set_option linter.unusedVariables false
set_option linter.unusedSimpArgs false
set_option linter.unnecessarySimpa false

/-! ### A reference cache with its blocks, beside a cache in memory -/
structure MAt (w : World) (cb jb mb : Nat) (r : DRef) (vr : Value) (b : Nat) (bv : Value) (V : Int) (tv : Value) (T : List Bl) (D : Dev) : Prop where
  ra : RAt w cb jb mb r vr b bv V tv T
  k : BksAt w bv D
  ko : ∀ i, bv.ownBlock = some i → Off w cb jb mb r vr i
  kn : ∀ i, bv.ownBlock = some i → i ≠ b
  tn : T ≠ [] → ∀ i, tv.ownBlock = some i → i ≠ b
theorem MAt.move {cb jb mb : Nat} {w w' : World} {r r' : DRef} {vr vr' : Value} {b : Nat} {bv : Value} {V : Int} {tv : Value} {T : List Bl} {D : Dev} (h : MAt w cb jb mb r vr b bv V tv T D) (m : CMove cb jb mb w r vr w' r' vr') : MAt w' cb jb mb r' vr' b bv V tv T D :=
  ⟨h.ra.move m, h.k.fr m.fr (fun i hi => (h.ko i hi).2), fun i hi => (h.ko i hi).move m, h.kn, h.tn⟩
theorem Off.reopen {cb jb mb cb' jb' mb' : Nat} {w w' : World} {r : DRef} {vr vr' : Value} {i : Nat} (h : Off w cb jb mb r vr i) (k : Below w.heap.size w w') (hc : w.heap.size ≤ cb') (hj : w.heap.size ≤ jb') (hm : w.heap.size ≤ mb') (hv : ∀ i, vr'.ownBlock = some i → w.heap.size ≤ i) : Off w' cb' jb' mb' r vr' i := by
  have h1 := h.1
  refine ⟨Nat.lt_of_lt_of_le h1 k.size, ?_⟩
  rintro (hf | rfl | rfl | rfl | hf)
  · exact h.2 (.inl hf)
  · omega
  · omega
  · omega
  · have := hv i hf; omega
theorem MAt.reopen {cb jb mb cb' jb' mb' : Nat} {w w' : World} {r : DRef} {vr vr' : Value} {b : Nat} {bv : Value} {V : Int} {tv : Value} {T : List Bl} {D : Dev} (h : MAt w cb jb mb r vr b bv V tv T D) (k : Below w.heap.size w w') (hc : w.heap.size ≤ cb') (hj : w.heap.size ≤ jb') (hm : w.heap.size ≤ mb') (hv : ∀ i, vr'.ownBlock = some i → w.heap.size ≤ i) : MAt w' cb' jb' mb' r vr' b bv V tv T D :=
  ⟨⟨(k.block _ (lt_of_heap h.ra.h)).trans h.ra.h, (Off.reopen ⟨lt_of_heap h.ra.h, h.ra.o⟩ k hc hj hm hv).2, ⟨h.ra.t.b.fr (Fr.of_below k Nowhere) (fun _ _ h => h), fun h0 i hi => (h.ra.t.o h0 i hi).reopen k hc hj hm hv⟩⟩,
    h.k.below k, fun i hi => (h.ko i hi).reopen k hc hj hm hv, h.kn, h.tn⟩
/-- What an operation of the reference returns, put into its variable. -/
theorem MAt.take {cb jb mb : Nat} {w w1 : World} {B : Nat} {r : DRef} {n : Nat} {vr : Value} {Cp : Cn} {b : Nat} {bv : Value} {V : Int} {tv : Value} {T : List Bl} {D : Dev} {x : Cn × Int} {e : Ending} (l : Live w B r cb jb mb n vr Cp) (h : MAt w cb jb mb r vr b bv V tv T D) (p : CPPost bv tv x T w e w1) :
    ∃ ao c ao2 c2, e = .returned (.tuple #[.agg #[.slice ao x.1.J.D.now.length c, .int .i64 x.1.ver, .slice ao2 x.1.T.length c2], .int .i64 x.2]) ∧ Below w.heap.size w w1 ∧ MAt w1 cb jb mb r vr b bv V tv T D ∧
      MAt (((w1.setCell ⟨b, 0, none⟩ (.slice ao x.1.J.D.now.length c)).setCell ⟨b, 1, none⟩ (.int .i64 x.1.ver)).setCell ⟨b, 2, none⟩ (.slice ao2 x.1.T.length c2)) cb jb mb r vr b (.slice ao x.1.J.D.now.length c) x.1.ver (.slice ao2 x.1.T.length c2) x.1.T x.1.J.D := by
  obtain ⟨vb', vt', rfl, k1, t1, fb, ft, bel⟩ := p
  have hm := h.move (CMove.below bel)
  obtain ⟨ao, c, rfl⟩ := k1.sl
  obtain ⟨ao2, c2, rfl, _⟩ := t1.sl
  have hbl := lt_of_heap h.ra.h
  have kn' : ∀ i, (Value.slice ao x.1.J.D.now.length c).ownBlock = some i → i ≠ b ∧ Off w1 cb jb mb r vr i := by
    intro i hi
    rcases fb with e | f
    · rw [e] at hi
      exact ⟨h.kn i hi, (h.ko i hi).move (CMove.below bel)⟩
    · have := f i hi
      exact ⟨by omega, l.off this.1 this.2⟩
  have tn' : x.1.T ≠ [] → ∀ i, (Value.slice ao2 x.1.T.length c2).ownBlock = some i → i ≠ b ∧ Off w1 cb jb mb r vr i := by
    intro h0 i hi
    rcases ft with ⟨e, e2⟩ | f
    · rw [e] at hi
      rw [e2] at h0
      exact ⟨h.tn h0 i hi, (h.ra.t.o h0 i hi).move (CMove.below bel)⟩
    · have := f i hi
      exact ⟨by omega, l.off this.1 this.2⟩
  have fr : Fr w1 (((w1.setCell ⟨b, 0, none⟩ (.slice ao x.1.J.D.now.length c)).setCell ⟨b, 1, none⟩ (.int .i64 x.1.ver)).setCell ⟨b, 2, none⟩ (.slice ao2 x.1.T.length c2)) (fun k => k = b) :=
    (((Fr.refl w1 (fun k => k = b)).setCell ⟨b, 0, none⟩ _ (fun _ => rfl)).setCell ⟨b, 1, none⟩ _ (fun _ => rfl)).setCell ⟨b, 2, none⟩ _ (fun _ => rfl)
  have off2 : ∀ i, Off w1 cb jb mb r vr i → Off (((w1.setCell ⟨b, 0, none⟩ (.slice ao x.1.J.D.now.length c)).setCell ⟨b, 1, none⟩ (.int .i64 x.1.ver)).setCell ⟨b, 2, none⟩ (.slice ao2 x.1.T.length c2)) cb jb mb r vr i := fun i hi => ⟨Nat.lt_of_lt_of_le hi.1 fr.size, hi.2⟩
  refine ⟨ao, c, ao2, c2, rfl, bel, hm, ⟨⟨heap3 hm.ra.h _ _ _, hm.ra.o, ⟨t1.fr0 fr (fun h0 i hi e => (tn' h0 i hi).1 e), fun h0 i hi => off2 i (tn' h0 i hi).2⟩⟩, k1.fr fr (fun i hi e => (kn' i hi).1 e), fun i hi => off2 i (kn' i hi).2, fun i hi => (kn' i hi).1, fun h0 i hi => (tn' h0 i hi).1⟩⟩
theorem info_refc : (Tryz.prog.info? 40).map (fun i => (i.zero, i.size, i.bytes)) = some (some (.agg #[.slice none 0 0, .int .i64 0, .slice none 0 0]), 3, 56) := by kernel_rfl
set_option maxHeartbeats 1000000 in
theorem store_ref (w : World) (b : Nat) (ao : Option Addr) (n c : Nat) (V : Int) (ao2 : Option Addr) (n2 c2 : Nat) (x0 x1 x2 : Value) (h : w.heap[b]? = some (.cells #[x0, x1, x2] 40 (0, 0))) :
    (Instr.storeAt 40 (.pointer (some ⟨b, 0, none⟩)) (.agg #[.slice ao n c, .int .i64 V, .slice ao2 n2 c2])).run Tryz.prog w = .ok () (((w.setCell ⟨b, 0, none⟩ (.slice ao n c)).setCell ⟨b, 1, none⟩ (.int .i64 V)).setCell ⟨b, 2, none⟩ (.slice ao2 n2 c2)) := by
  have r0 := cell_of_row w _ 0 _ _ _ h
  have r1 := cell_of_row w _ 1 _ _ _ h
  have r2 := cell_of_row w _ 2 _ _ _ h
  have z0 := frozen_of_row w _ 0 _ _ h
  have z1 := frozen_of_row w _ 1 _ _ h
  have z2 := frozen_of_row w _ 2 _ _ h
  go_simp
theorem load_ref {w : World} {b : Nat} {ao : Option Addr} {n c : Nat} {V : Int} {ao2 : Option Addr} {n2 c2 : Nat} (h : w.rangeAt b 0 [.slice ao n c, .int .i64 V, .slice ao2 n2 c2]) :
    (Instr.loadAt 40 (.pointer (some ⟨b, 0, none⟩))).run Tryz.prog w = .ok (.agg #[.slice ao n c, .int .i64 V, .slice ao2 n2 c2]) w :=
  run_loadAt_mid w b 0 40 [.slice ao n c, .int .i64 V, .slice ao2 n2 c2] _ h Tryz.underlying40 rfl (by kernel_rfl)
theorem MAt.rg {w : World} {cb jb mb : Nat} {r : DRef} {vr : Value} {b : Nat} {bv : Value} {V : Int} {tv : Value} {T : List Bl} {D : Dev} (h : MAt w cb jb mb r vr b bv V tv T D) : w.rangeAt b 0 [bv, .int .i64 V, tv] := by
  intro j u hj
  rw [Nat.zero_add, cell_of_row w _ j _ _ _ h.ra.h, ← hj]
  simp
end Go.Proofs.YtjflcpkmoamijaaGreatDoor
