import Derived.Test.YtjflcpkmoamijaaGreatDoorDev1b
import Derived.Test.YtjflcpkmoamijaaGreatDoorSeq
import Derived.Test.YtjflcpkmoamijaaGreatDoorApp
import Derived.Lib.BufferWrite
import Derived.Lib.SlBuf
namespace Go.Proofs.YtjflcpkmoamijaaGreatDoor
open Go.RowKit
set_option linter.unusedVariables false
set_option linter.unusedSimpArgs false
set_option linter.unnecessarySimpa false

theorem DevIs.cell {w : World} {r : DRef} {D : Dev} (h : DevIs w r D) (i j : Nat) (hi : i < D.now.length) (hj : j < (D.now[i]).length) : w.cell? ⟨r.bn, i * 64 + j, none⟩ = some (.int .u8 (D.now[i][j].toNat : Int)) := by
  have h64 := h.ok.n64 _ (List.getElem_mem hi)
  rw [cell_of_row w _ _ _ _ _ h.hn]
  unfold rowOf
  rw [List.getElem?_toArray, flat_get bvals 64 D.now i j (fun x hx => by rw [bvals_len]; exact h.ok.n64 x hx) hi (by omega)]
  simp [bvals, List.getElem?_eq_getElem hj]
def blkAt (D : Dev) (i : Nat) : Blk := D.now.getD i []
theorem DevIs.conv {w : World} {r : DRef} {D : Dev} (h : DevIs w r D) (i : Nat) (hi : i < D.now.length) :
    (convert 111 9 (.slice (some ⟨r.bn, i * 64, none⟩) 64 64)).run Tryz.prog w = .ok (.string ⟨(blkAt D i).toArray⟩) w := by
  have h64 := h.ok.n64 _ (List.getElem_mem hi)
  have hb : blkAt D i = D.now[i] := by simp [blkAt, List.getD, List.getElem?_eq_getElem hi]
  rw [hb]
  have := run_convert_bytes_back (P := Tryz.prog) w 111 9 5 ⟨r.bn, i * 64, none⟩ 64 D.now[i] Tryz.underlying111 Tryz.underlying5 Tryz.underlying9
    (fun j hj => by rw [Addr.add_mid]; exact h.cell i j hi hj)
  rw [h64] at this
  exact this
set_option maxHeartbeats 400000 in
set_option maxRecDepth 100000 in
theorem DRead_any (r : DRef) (D : Dev) (i : Nat) (w : World) (h : DevIs w r D) (hi : i < D.now.length) :
    Calls Tryz.prog 101 #[.pointer (some ⟨r.b, 0, none⟩), .int .i64 i] w fun e w' => e = .returned (.tuple #[.string ⟨(blkAt D i).toArray⟩, .int .i64 0]) ∧ w' = w := by
  have c2 := h.c2
  have hc := h.conv i hi
  have hi' : (i : Int) < (D.now.length : Int) := by omega
  have ht := h.ok.top
  clear h
  go_enter Tryz.func101, Tryz.ntmps101
  go_wp2
  go_ret2
  exact ⟨rfl, rfl⟩
/-- A block that begins with a string. -/
def padB (s : ByteArray) : Blk := s.data.toList ++ List.replicate (64 - s.size) 0
theorem padB_len {s : ByteArray} (h : s.size ≤ 64) : (padB s).length = 64 := by
  have : s.data.toList.length = s.size := rfl
  simp only [padB, List.length_append, List.length_replicate, this]; omega
def Dev.write (D : Dev) (i : Nat) (s : ByteArray) : Dev := { D with now := D.now.set i (padB s), log := D.log ++ [(i, padB s)], left := if D.lim then D.left - 1 else D.left }
/-- A new array's cells, as the walk spells them. -/
def zc : Array Value := #[.int .u8 0, .int .u8 0, .int .u8 0, .int .u8 0, .int .u8 0, .int .u8 0, .int .u8 0, .int .u8 0, .int .u8 0, .int .u8 0, .int .u8 0, .int .u8 0, .int .u8 0, .int .u8 0, .int .u8 0, .int .u8 0, .int .u8 0, .int .u8 0, .int .u8 0, .int .u8 0, .int .u8 0, .int .u8 0, .int .u8 0, .int .u8 0, .int .u8 0, .int .u8 0, .int .u8 0, .int .u8 0, .int .u8 0, .int .u8 0, .int .u8 0, .int .u8 0, .int .u8 0, .int .u8 0, .int .u8 0, .int .u8 0, .int .u8 0, .int .u8 0, .int .u8 0, .int .u8 0, .int .u8 0, .int .u8 0, .int .u8 0, .int .u8 0, .int .u8 0, .int .u8 0, .int .u8 0, .int .u8 0, .int .u8 0, .int .u8 0, .int .u8 0, .int .u8 0, .int .u8 0, .int .u8 0, .int .u8 0, .int .u8 0, .int .u8 0, .int .u8 0, .int .u8 0, .int .u8 0, .int .u8 0, .int .u8 0, .int .u8 0, .int .u8 0]
theorem zc_def : zc = #[.int .u8 0, .int .u8 0, .int .u8 0, .int .u8 0, .int .u8 0, .int .u8 0, .int .u8 0, .int .u8 0, .int .u8 0, .int .u8 0, .int .u8 0, .int .u8 0, .int .u8 0, .int .u8 0, .int .u8 0, .int .u8 0, .int .u8 0, .int .u8 0, .int .u8 0, .int .u8 0, .int .u8 0, .int .u8 0, .int .u8 0, .int .u8 0, .int .u8 0, .int .u8 0, .int .u8 0, .int .u8 0, .int .u8 0, .int .u8 0, .int .u8 0, .int .u8 0, .int .u8 0, .int .u8 0, .int .u8 0, .int .u8 0, .int .u8 0, .int .u8 0, .int .u8 0, .int .u8 0, .int .u8 0, .int .u8 0, .int .u8 0, .int .u8 0, .int .u8 0, .int .u8 0, .int .u8 0, .int .u8 0, .int .u8 0, .int .u8 0, .int .u8 0, .int .u8 0, .int .u8 0, .int .u8 0, .int .u8 0, .int .u8 0, .int .u8 0, .int .u8 0, .int .u8 0, .int .u8 0, .int .u8 0, .int .u8 0, .int .u8 0, .int .u8 0] := rfl
theorem zc_eq : zc = (bvals zeroBlk).toArray := rfl
theorem pad_cells (s : ByteArray) (h : s.size ≤ 64) : zc.toList.take 0 ++ Lib.byteCells s.data.toList ++ zc.toList.drop (0 + s.size) = bvals (padB s) := by
  rw [zc_eq]
  have : (bvals zeroBlk) = List.replicate 64 (.int .u8 0) := rfl
  rw [this]
  simp only [List.take_zero, List.nil_append, Nat.zero_add, List.drop_replicate, padB, bvals, List.map_append, List.map_replicate]
  rfl
/-- The variable b behind 'copy(b[:], s)'. -/
theorem copied_b (w : World) (s : ByteArray) (h : s.size ≤ 64) : ∃ w2, (Builtin.copy_ #[111, 9] 3 #[.slice (some ⟨w.heap.size, 0, none⟩) 64 64, .string s]).run Tryz.prog (w.alloc (.cells zc 108)) = .ok (goInt s.size) w2 ∧
    w2.heap[w.heap.size]? = some (.cells (brow (padB s)) 108 (0, 0)) ∧ Fr w w2 Nowhere ∧ w2.heap.size = w.heap.size + 1 := by
  have hg := heap_alloc_new w (.cells zc 108)
  have hr := Lib.run_copy_row_string (P := Tryz.prog) (w.alloc (.cells zc 108)) 111 9 3 5 w.heap.size 0 64 64 s zc 108 Tryz.underlying111 (by kernel_rfl) hg h (by rw [zc_eq]; simp [bvals, zeroBlk]; omega)
  rw [pad_cells s h] at hr
  refine ⟨_, hr, setRow_heap _ _ _ _ _ _ hg, ?_, by simp⟩
  exact ⟨rfl, rfl, rfl, by simp, fun k hk _ => by rw [setRow_other _ _ _ _ (by omega)]; exact Below.heap_alloc w _ k hk⟩
theorem run_load_blk (w : World) (g : Nat) (b : Blk) (hg : w.heap[g]? = some (.cells (brow b) 108 (0, 0))) (hb : (brow b).size = 64) :
    (Instr.loadAt 108 (.pointer (some ⟨g, 0, none⟩))).run Tryz.prog w = .ok (.agg (brow b)) w := by
  have := run_loadVar_row (P := Tryz.prog) w g 108 108 (brow b) (0, 0) _ hg Tryz.underlying108 rfl (by rw [hb]; kernel_rfl)
  simp only [Instr.loadAt, Instr.sureAddr, Sem.run_bind, Sem.run_pure, Result.andThen_ok, this]
theorem wpList_store_run {P : Program} {ops : Array Oper} {rest : List Oper} {o : Oper} {a : Act} {Q : Exit → Act → World → Prop} {w w' : World} (hgd : o.guard = none) (t : TypeId) (x y : Operand) (ho : o.op = .store t x y)
    (v u : Value) (hx : a.eval x = v) (hy : a.eval y = u) (hr : (Instr.storeAt t v u).run P w = .ok () w') (h : wpList P ops Q rest (a.put o.dst undef) w') : wpList P ops Q (o :: rest) a w :=
  wpList_plain hgd fun _ hK => by
    unfold Oper.wp execOp
    simp only [ho, hx, hy, Sem.run_bind, Sem.run_pure, Result.andThen_ok, hr]
    exact hK _ _ h
theorem store_blk {w : World} {r : DRef} {D : Dev} (h : DevIs w r D) (i : Nat) (b : Blk) (hi : i < D.now.length) (hb : b.length = 64) :
    (Instr.storeAt 108 (.pointer (some ⟨r.bn, i * 64, none⟩)) (.agg (brow b))).run Tryz.prog w = .ok () (w.setRow r.bn (rowOf (D.now.set i b))) := by
  have hlen : (rowOf D.now).size = D.now.length * 64 := by unfold rowOf; rw [List.size_toArray, flat_len bvals 64 D.now (fun x hx => by rw [bvals_len]; exact h.ok.n64 x hx)]
  have hst := run_storeCells_at Tryz.prog r.bn (i * 64) 108 (bvals b) 0 (rowOf D.now) w h.hn (by rw [bvals_len, hb, hlen]; omega) (by
    intro v hv
    obtain ⟨c, _, rfl⟩ := List.mem_map.1 hv
    rfl)
  have hset : ((rowOf D.now).toList.take (i * 64) ++ bvals b ++ (rowOf D.now).toList.drop (i * 64 + 64)).toArray = rowOf (D.now.set i b) := by
    unfold rowOf
    rw [← flat_set bvals 64 D.now i b (fun x hx => by rw [bvals_len]; exact h.ok.n64 x hx) hi]
  simp only [Nat.add_zero, bvals_len, hb, hset] at hst
  have hi : (Tryz.prog.info? 108).map (·.size) = some 64 := by kernel_rfl
  cases hq : Tryz.prog.info? 108 with
  | none => simp [hq] at hi
  | some i0 =>
    have hs : (brow b).size = i0.size := by rw [brow_size hb]; simp [hq] at hi; omega
    have hl : (brow b).toList = bvals b := by simp [brow]
    simp [Instr.storeAt, Instr.sureAddr, storeVar, sizeOf, typeInfo, hq, Value.cells, hs, hl, hst]
/-- A step of a device: only its own blocks have changed; a block that it has taken is new. -/
structure DStep (w : World) (r : DRef) (w' : World) (r' : DRef) : Prop where
  b : r'.b = r.b
  fr : Fr w w' r.foot
  sub : ∀ k, k < w.heap.size → r'.foot k → r.foot k

theorem wrow_one (i : Nat) (b : Blk) : ∀ u ∈ (wrow i b).toList, u.oneCell' = true := by
  intro u hu
  simp only [wrow, wvals, bvals, List.mem_cons] at hu
  rcases hu with rfl | hu
  · rfl
  · obtain ⟨c, _, rfl⟩ := List.mem_map.1 hu
    rfl
/-- A slice's header, stored. -/
theorem store1 {P : Program} (w : World) (t : TypeId) (g i : Nat) (v u : Value) (hv : v.oneCell' = true) (hi : (P.info? t).map (·.size) = some 1) (hc : w.cell? ⟨g, i, none⟩ = some u) (hf : w.frozen? ⟨g, i, none⟩ = false) :
    (Instr.storeAt t (.pointer (some ⟨g, i, none⟩)) v).run P w = .ok () (w.setCell ⟨g, i, none⟩ v) := by
  cases hq : P.info? t with
  | none => simp [hq] at hi
  | some i0 =>
    have hs : i0.size = 1 := by simpa [hq] using hi
    have hcl : v.cells = #[v] := by cases v <;> first | rfl | (simp [Value.oneCell'] at hv)
    have hst := run_store P w ⟨g, i, none⟩ v .plain hv
    rw [hc] at hst
    simp only [hf, Bool.false_eq_true, if_false] at hst
    simp [Instr.storeAt, Instr.sureAddr, storeVar, sizeOf, typeInfo, hq, hcl, hs, storeCells, hst, Addr.add]
theorem own_cell {w : World} {base : Nat} {e : TypeId} {size n : Nat} {v : Value} {xs : List Value} (h : w.ownsRow base e size v n xs) : v.oneCell' = true := by
  rcases h.2 with ⟨rfl, _⟩ | ⟨g, cap, cur, rfl, _⟩ <;> rfl
theorem DevIs.pushed {w3 w4 : World} {r : DRef} {D : Dev} (H : DevIs w3 r D) (i : Nat) (b : Blk) (hb : b.length = 64) (hi : i < D.now.length) {v4 : Value}
    (hown : w4.ownsRow 0 110 65 v4 (D.log.length + 1) (D.log.flatMap wvals ++ (wrow i b).toList)) (hg : w3.grownBy w4 r.vl.ownBlock) (hat : v4.ownBlock = r.vl.ownBlock ∨ v4.ownBlock = some (w3.heap.size + 1)) :
    DevIs (w4.setCell ⟨r.b, 1, none⟩ v4) ⟨r.b, r.bf, r.bn, v4⟩ { D with log := D.log ++ [(i, b)] } ∧ DStep w3 r (w4.setCell ⟨r.b, 1, none⟩ v4) ⟨r.b, r.bf, r.bn, v4⟩ := by
  have hF : Fr w3 w4 r.foot := Fr.grown hg (fun k hk _ => .inr (.inr (.inr hk)))
  have hF1 : Fr w3 w4 (fun k => r.vl.ownBlock = some k) := Fr.grown hg (fun k hk _ => hk)
  have m1 : ¬ r.vl.ownBlock = some r.b := fun e => own_ne H.hl H.hb (by decide) e rfl
  have m2 : ¬ r.vl.ownBlock = some r.bf := fun e => own_ne H.hl H.hf (by decide) e rfl
  have m3 : ¬ r.vl.ownBlock = some r.bn := fun e => own_ne H.hl H.hn (by decide) e rfl
  have h4b := hF1.heap H.hb m1
  have h4f := hF1.heap H.hf m2
  have h4n := hF1.heap H.hn m3
  have e1 : r.bf ≠ r.b := fun e => ne_of_elem H.hf H.hb (by decide) e
  have e2 : r.bn ≠ r.b := fun e => ne_of_elem H.hn H.hb (by decide) e
  have hset := heap_setCell_same w4 r.b 1 _ _ v4 h4b
  refine ⟨⟨?_, ?_, ?_, ?_, ?_, H.ne⟩, rfl, ?_, ?_⟩
  · refine ⟨H.ok.len, H.ok.pos, H.ok.top, H.ok.f64, H.ok.n64, ?_, ?_, H.ok.lft⟩
    · intro x hx
      rcases List.mem_append.1 hx with hx | hx
      · exact H.ok.l64 x hx
      · simp at hx; subst hx; exact hb
    · intro x hx
      rcases List.mem_append.1 hx with hx | hx
      · exact H.ok.lat x hx
      · simp at hx; subst hx; exact hi
  · simpa using hset
  · exact (Below.heap_setCell _ _ _ _ e1).trans h4f
  · exact (Below.heap_setCell _ _ _ _ e2).trans h4n
  · have hh := ownsRow_setCell_other hown (a := ⟨r.b, 1, none⟩) (fun e => own_ne hown h4b (by decide) e rfl) v4
    have hw : (wrow i b).toList = wvals (i, b) := by simp [wrow]
    rw [hw] at hh
    simpa using hh
  · exact hF.setCell _ _ (fun _ => .inl rfl)
  · intro k hk hf
    rcases hf with rfl | rfl | rfl | hf
    · exact .inl rfl
    · exact .inr (.inl rfl)
    · exact .inr (.inr (.inl rfl))
    · rcases hat with hat | hat
      · exact .inr (.inr (.inr (hat ▸ hf)))
      · dsimp only at hf
        rw [hat] at hf
        injection hf with hf
        omega
theorem DevIs.setLeft {w : World} {r : DRef} {D : Dev} (H : DevIs w r D) (n : Nat) (hn : n < 9223372036854775808) : DevIs (w.setCell ⟨r.b, 4, none⟩ (.int .i64 n)) r { D with left := n } ∧ Fr w (w.setCell ⟨r.b, 4, none⟩ (.int .i64 n)) r.foot := by
  have e1 : r.bf ≠ r.b := fun e => ne_of_elem H.hf H.hb (by decide) e
  have e2 : r.bn ≠ r.b := fun e => ne_of_elem H.hn H.hb (by decide) e
  have hset := heap_setCell_same w r.b 4 _ _ (.int .i64 n) H.hb
  refine ⟨⟨⟨H.ok.len, H.ok.pos, H.ok.top, H.ok.f64, H.ok.n64, H.ok.l64, H.ok.lat, hn⟩, ?_, ?_, ?_, ?_, H.ne⟩, (Fr.refl _ _).setCell _ _ (fun _ => .inl rfl)⟩
  · simpa using hset
  · exact (Below.heap_setCell _ _ _ _ e1).trans H.hf
  · exact (Below.heap_setCell _ _ _ _ e2).trans H.hn
  · exact ownsRow_setCell_other H.hl (a := ⟨r.b, 4, none⟩) (fun e => own_ne H.hl H.hb (by decide) e rfl) _
theorem DStep.trans {w w1 w2 : World} {r r1 r2 : DRef} (h : DStep w r w1 r1) (k : DStep w1 r1 w2 r2) : DStep w r w2 r2 :=
  ⟨k.b.trans h.b, h.fr.trans k.fr h.sub, fun i hi hf => h.sub i hi (k.sub i (Nat.lt_of_lt_of_le hi h.fr.size) hf)⟩
theorem DStep.of_fr {w w1 : World} {r : DRef} (h : Fr w w1 r.foot) : DStep w r w1 r := ⟨rfl, h, fun _ _ h => h⟩
theorem wpStill_load {P : Program} {ops : Array Oper} {rest : List Oper} {o : Oper} {a : Act} {Q : Act → Prop} {w : World} (hgd : o.guard = none) (t : TypeId) (x : Operand) (ho : o.op = .load t x)
    (v u : Value) (hx : a.eval x = v) (hr : (Instr.loadAt t v).run P w = .ok u w) (h : wpStill P ops w Q rest (a.put o.dst u)) : wpStill P ops w Q (o :: rest) a := by
  refine wpStill_step fun K hK => ?_
  have hw : Region.wanted o (yielded ops a.tmps) = true := by simp [Region.wanted, hgd]
  rw [if_pos hw]
  unfold Oper.still execOp
  simp only [ho, hx, Sem.run_bind, Sem.run_pure, Result.andThen_ok, hr]
  exact ⟨rfl, hK _ h⟩
def Dev.set (D : Dev) (i : Nat) (b : Blk) : Dev := { D with now := D.now.set i b }
theorem Dev.set_ok {D : Dev} (h : D.Ok) (i : Nat) (b : Blk) (hb : b.length = 64) : (D.set i b).Ok :=
  ⟨by simpa [set] using h.len, by simpa [set] using h.pos, by simpa [set] using h.top, h.f64, by
    intro x hx
    rcases List.mem_or_eq_of_mem_set hx with hx | rfl
    · exact h.n64 x hx
    · exact hb, h.l64, by simpa [set] using h.lat, h.lft⟩
theorem DevIs.setRow {w : World} {r : DRef} {D : Dev} (h : DevIs w r D) (i : Nat) (b : Blk) (hb : b.length = 64) :
    DevIs (w.setRow r.bn (rowOf (D.now.set i b))) r (D.set i b) ∧ Fr w (w.setRow r.bn (rowOf (D.now.set i b))) (· = r.bn) := by
  have n1 : r.b ≠ r.bn := ne_of_elem h.hb h.hn (by decide)
  have hF : Fr w (w.setRow r.bn (rowOf (D.now.set i b))) (· = r.bn) := ⟨rfl, rfl, rfl, by simp, fun k hk hn => setRow_other _ _ _ _ hn⟩
  refine ⟨⟨Dev.set_ok h.ok i b hb, ?_, hF.heap h.hf h.ne, setRow_heap _ _ _ _ _ _ h.hn, hF.owns h.hl (fun k hk => own_ne h.hl h.hn (by decide) hk), h.ne⟩, hF⟩
  have := hF.heap h.hb n1
  simpa [Dev.set] using this
def WPost (r : DRef) (D : Dev) (i : Nat) (s : ByteArray) (w : World) (e : Ending) (w' : World) : Prop := e = .returned (.int .i64 0) ∧ ∃ r', DevIs w' r' (D.write i s) ∧ DStep w r w' r'
theorem WPost.mk0 {r r' : DRef} {D : Dev} {i : Nat} {s : ByteArray} {w w' : World} (hl : D.lim = false) (h : DevIs w' r' { D.set i (padB s) with log := (D.set i (padB s)).log ++ [(i, padB s)] }) (k : DStep w r w' r') : WPost r D i s w (.returned (.int .i64 0)) w' := by
  refine ⟨rfl, r', ?_, k⟩
  have : D.write i s = { D.set i (padB s) with log := (D.set i (padB s)).log ++ [(i, padB s)] } := by simp [Dev.write, Dev.set, hl]
  rw [this]; exact h
theorem WPost.mk1 {r r' : DRef} {D : Dev} {i : Nat} {s : ByteArray} {w w' : World} (hl : D.lim = true) (h : DevIs w' r' { D.set i (padB s) with log := (D.set i (padB s)).log ++ [(i, padB s)], left := D.left - 1 }) (k : DStep w r w' r') : WPost r D i s w (.returned (.int .i64 0)) w' := by
  refine ⟨rfl, r', ?_, k⟩
  have : D.write i s = { D.set i (padB s) with log := (D.set i (padB s)).log ++ [(i, padB s)], left := D.left - 1 } := by simp [Dev.write, Dev.set, hl]
  rw [this]; exact h
set_option maxHeartbeats 1000000 in
set_option maxRecDepth 100000 in
theorem Write_any (r : DRef) (D : Dev) (i : Nat) (s : ByteArray) (w : World) (h : DevIs w r D) (hi : i < D.now.length) (hs : s.size ≤ 64) (hl : D.lim = true → D.left ≠ 0) (hlog : D.log.length ≤ 1000000000) :
    Calls Tryz.prog 37 #[.pointer (some ⟨r.b, 0, none⟩), .int .i64 i, .string s] w (WPost r D i s w) := by
  have c2 := h.c2
  have c3 := h.c3
  have c4 := h.c4
  have hi' : (i : Int) < (D.now.length : Int) := by omega
  have hs' : ¬ (64 : Int) < (s.size : Int) := by omega
  have ht := h.ok.top
  have H := Lib.hid h
  clear h
  rcases hlim : D.lim with _ | _
  all_goals
    rw [hlim] at c3
    try have hb0 : ((D.left : Int) == 0) = false := by have := hl hlim; simpa using this
    have HL := Lib.hid hlim
    clear hlim hl
    go_enter Tryz.func37, Tryz.ntmps37
    go_wp2_with fail
    obtain ⟨w2, hcp, hb2, hf2, hs2⟩ := copied_b w s hs
    rw [← zc_def, hcp]
    simp only [Result.andThen_ok]
    have H2 := Lib.hid (H.out.fr hf2 (fun _ _ h => h))
    have HB2 := Lib.hid hb2
    have HF2 := Lib.hid hf2
    clear hcp hb2 hf2 c2 c3 c4
    have d2 := H2.out.c2
    have d1 := H2.out.c1
    have d3 := H2.out.c3
    rw [HL.out] at d3
    have hpl := padB_len hs
    have hbs := brow_size hpl
    have hb2 := HB2.out
    go_wp2
    refine wp_region_still_tail 7 (by kernel_rfl) (by kernel_rfl) ?_
    simp only [List.take_succ_cons, List.take_zero, List.drop_succ_cons, List.drop_zero]
    change wpStill _ _ w2.drew _ _ _
    still_step
    still_step
    still_step
    still_step
    still_step
    refine wpStill_load rfl 108 _ rfl _ _ rfl (run_load_blk w2.drew w.heap.size (padB s) hb2 hbs) ?_
    still_step
    refine wpStill_nil ?_
    change wpList _ _ _ _ _ w2.drew
    have H2d : DevIs w2.drew r D := ⟨H2.out.ok, H2.out.hb, H2.out.hf, H2.out.hn, H2.out.hl, H2.out.ne⟩
    refine wpList_store_run rfl 108 _ _ rfl _ _ rfl rfl (store_blk H2d i (padB s) hi hpl) ?_
    obtain ⟨hd3, hf3⟩ := H2d.setRow i (padB s) hpl
    have hb3 : (w2.drew.setRow r.bn (rowOf (D.now.set i (padB s)))).heap[w.heap.size]? = some (.cells (brow (padB s)) 108 (0, 0)) := hf3.heap hb2 (fun e => by have := H.out.lt (k := r.bn) (.inr (.inr (.inl rfl))); omega)
    have hf3' : Fr w (w2.drew.setRow r.bn (rowOf (D.now.set i (padB s)))) r.foot := (HF2.out.drew.mono (fun _ _ h => h.elim)).trans hf3 (fun k _ h => .inr (.inr (.inl h)))
    have hs3 : (w2.drew.setRow r.bn (rowOf (D.now.set i (padB s)))).heap.size = w.heap.size + 1 := by simp [hs2]
    have H3 := Lib.hid hd3
    have HF3 := Lib.hid hf3'
    clear hd3 hf3 hf3' H2d H2 HB2 HF2 hb2 d1 d2 d3 hs2
    generalize w2.drew.setRow r.bn (rowOf (D.now.set i (padB s))) = w3 at *
    clear w2
    have d1 := H3.out.c1
    have d3 := H3.out.c3
    have d4 := H3.out.c4
    have f1 := H3.out.fz 1
    have e3 : (D.set i (padB s)).lim = D.lim := rfl
    rw [e3, HL.out] at d3
    clear e3
    obtain ⟨i0, hi0, hz0, hz1, hz2⟩ := info_parts info_wr
    go_wp2
    refine region_seq (fun w' => w'.cell? ⟨r.b, 1, none⟩ = some r.vl ∧ w'.heap[w.heap.size]? = some (.cells (brow (padB s)) 108 (0, 0))) [12]
      [(.p, 0), (.p, 1), (.p, 2), (.p, 3), (.q, 4), (.p, 5), (.q, 6), (.p, 7), (.l, 8), (.l, 9), (.p, 10), (.p, 11), (.d, 12)] (by kernel_rfl) (by kernel_rfl) (by kernel_rfl) (by kernel_rfl) (fun d v c a w h => by cases d <;> exact h) ?_
    have hS : w3.drew.cell? ⟨r.b, 1, none⟩ = some r.vl ∧ w3.drew.heap[w.heap.size]? = some (.cells (brow (padB s)) 108 (0, 0)) := ⟨d1, hb3⟩
    (refine seq_p (N := some 49) rfl rfl (by rfl) ?_ (fun w' => ?_) ?_
     rotate_left
     · go_simp
       with_reducible rfl
     simp only [Act.put, List.setIfInBounds_toArray, List.set_cons_zero, List.set_cons_succ])
    (refine seq_p (N := some 50) rfl rfl (by rfl) ?_ (fun w' => ?_) ?_
     rotate_left
     · go_simp
       with_reducible rfl
     simp only [Act.put, List.setIfInBounds_toArray, List.set_cons_zero, List.set_cons_succ])
    (refine seq_p (N := some 51) rfl rfl (by rfl) ?_ (fun w' => ?_) ?_
     rotate_left
     · go_simp
       with_reducible rfl
     simp only [Act.put, List.setIfInBounds_toArray, List.set_cons_zero, List.set_cons_succ])
    (refine seq_p (N := some 52) rfl rfl (by rfl) ?_ (fun w' => ?_) ?_
     rotate_left
     · go_simp
       with_reducible rfl
     simp only [Act.put, List.setIfInBounds_toArray, List.set_cons_zero, List.set_cons_succ])
    (refine seq_q (N := some 53) rfl rfl (by rfl) ?_ ?_ hS ?_
     rotate_left
     · rintro w' ⟨s1, s2⟩
       go_simp
       with_reducible rfl
     simp only [Act.put, List.setIfInBounds_toArray, List.set_cons_zero, List.set_cons_succ])
    (refine seq_p (N := some 54) rfl rfl (by rfl) ?_ (fun w' => ?_) ?_
     rotate_left
     · go_simp
       with_reducible rfl
     simp only [Act.put, List.setIfInBounds_toArray, List.set_cons_zero, List.set_cons_succ])
    (refine seq_q (N := some 55) rfl rfl (by rfl) (.agg (brow (padB s))) ?_ hS ?_
     · rintro w' ⟨s1, s2⟩
       exact run_ld rfl rfl (run_load_blk w' w.heap.size (padB s) s2 hbs)
     simp only [Act.put, List.setIfInBounds_toArray, List.set_cons_zero, List.set_cons_succ])
    (refine seq_p (N := some 56) rfl rfl (by rfl) (.agg (wrow i (padB s))) (fun w' => ?_) ?_
     · exact run_bd (ps := #[(0, .int .i64 i), (1, .agg (brow (padB s)))]) rfl (by simp [Act.eval]) (run_build_wr w' i (padB s) hpl)
     simp only [Act.put, List.setIfInBounds_toArray, List.set_cons_zero, List.set_cons_succ])
    refine seq_l rfl (by rfl) (wp_bs (N := some 57) (ps := #[(0, .agg (wrow i (padB s)))]) rfl rfl (by simp [Act.eval]) (run_bs_wr _ i (padB s) hpl) ?_)
    simp only [Act.put, List.setIfInBounds_toArray, List.set_cons_zero, List.set_cons_succ]
    have hl3 : w.heap.size < w3.drew.heap.size := by have := lt_of_heap hb3; exact this
    have hbl : r.b < w3.heap.size := H3.out.lt (.inl rfl)
    refine ⟨fun _ => ⟨(Below.cell ((Below.refl _ _).alloc (Nat.le_refl _) _) (by exact hbl)).trans hS.1, (Below.heap_alloc _ _ _ hl3).trans hS.2⟩, ?_⟩
    refine seq_l rfl (by rfl) (wp_app1 (W := w3.drew) (N := some 58) (wrow i (padB s)) _ _ 69 110 (.agg zw) 65 72 0 rfl rfl Tryz.underlying69 info_wr zw_size (by omega) (by omega) r.vl D.log.length (D.log.flatMap wvals) rfl rfl (wrow_size hpl) (wrow_one i (padB s)) H3.out.hl (by omega) (by omega) ?_)
    intro v4 w4 hown4 hg4 hat4
    simp only [Act.put, List.setIfInBounds_toArray, List.set_cons_zero, List.set_cons_succ]
    have hn1 : r.vl.ownBlock ≠ some r.b := fun e => own_ne H3.out.hl H3.out.hb (by decide) e rfl
    have hn2 : r.vl.ownBlock ≠ some w.heap.size := fun e => own_ne H3.out.hl hb3 (by decide) e rfl
    refine ⟨fun _ => ⟨?_, ?_⟩, ?_⟩
    · exact (World.cell?_of_block (hg4.block _ hbl (fun e => hn1 e.symm))).trans d1
    · exact (hg4.block _ hl3 (fun e => hn2 e.symm)).trans hb3
    (refine seq_p (N := some 59) rfl rfl (by rfl) ?_ (fun w' => ?_) ?_
     rotate_left
     · go_simp
       with_reducible rfl
     simp only [Act.put, List.setIfInBounds_toArray, List.set_cons_zero, List.set_cons_succ])
    (refine seq_p (N := some 60) rfl rfl (by rfl) ?_ (fun w' => ?_) ?_
     rotate_left
     · go_simp
       with_reducible rfl
     simp only [Act.put, List.setIfInBounds_toArray, List.set_cons_zero, List.set_cons_succ])
    refine seq_d rfl (by rfl) (wp_st rfl rfl rfl rfl (store1 _ _ r.b 1 v4 r.vl (own_cell hown4) (by kernel_rfl) ((World.cell?_of_block (hg4.block _ hbl (fun e => hn1 e.symm))).trans d1) ((World.frozen?_of_block (hg4.block _ hbl (fun e => hn1 e.symm))).trans f1)) ?_)
    refine seq_nil ?_
    obtain ⟨hd5, hst5⟩ := H3.out.pushed i (padB s) hpl (by simpa [Dev.set] using hi) hown4 ⟨hg4.os, hg4.tape, hg4.output, hg4.size, hg4.block⟩ hat4
    have H5 := Lib.hid hd5
    have HS5 := Lib.hid hst5
    clear hd5 hst5 hown4 hg4 hat4 hS hb3 d1 d3 d4 f1
    generalize w4.setCell ⟨r.b, 1, none⟩ v4 = w5 at *
    have e5 : DStep w r w5 ⟨r.b, r.bf, r.bn, v4⟩ := (DStep.of_fr HF3.out).trans HS5.out
    have E5 := Lib.hid e5
    have d3 := H5.out.c3
    have d4 := H5.out.c4
    have f4 : w5.frozen? ⟨r.b, 4, none⟩ = false := H5.out.fz 4
    have e3 : (D.set i (padB s)).lim = D.lim := rfl
    have e4 : (D.set i (padB s)).left = D.left := rfl
    simp only [e3, e4, HL.out] at d3 d4
    clear e5 e3 e4 H3 HF3 HS5
    go_wp2
    go_ret
    first
    | exact WPost.mk0 HL.out H5.out E5.out
    | (have hlt := H.out.ok.lft
       have hc : wrap64 ((D.left : Int) - 1) = ((D.left - 1 : Nat) : Int) := by simp at hb0; unfold wrap64; omega
       rw [hc]
       obtain ⟨h6, f6⟩ := H5.out.setLeft (D.left - 1) (by omega)
       exact WPost.mk1 HL.out h6 (E5.out.trans (DStep.of_fr f6)))
end Go.Proofs.YtjflcpkmoamijaaGreatDoor
