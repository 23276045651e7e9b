import Derived.Test.YtjflcpkmoamijaaGreatDoorMp2
namespace Go.Proofs.YtjflcpkmoamijaaGreatDoor
open Go.RowKit
set_option linter.unusedVariables false
set_option linter.unusedSimpArgs false
set_option linter.unnecessarySimpa false

section
variable {P : Program} {o : Oper} {a : Act} {w w' : World} {K : Act → World → Prop} {Q : Exit → Act → World → Prop}
theorem wp_upd {t : TypeId} {m x v : Operand} {vm vx vv : Value} (ho : o.op = .mapUpdate t m x v) (hN : o.dst = none) (hm : a.eval m = vm) (hx : a.eval x = vx) (hv : a.eval v = vv) (hr : (Instr.mapUpdate t vm vx vv).run P w = .ok () w') (h : K a w') : o.wp P a w K Q := by
  unfold Oper.wp execOp
  simp only [ho, hm, hx, hv, Sem.run_bind, Sem.run_pure, Result.andThen_ok, hr]
  show K (a.put o.dst undef) w'
  rw [hN]; exact h
theorem wp_dele {t k : TypeId} {m x : Operand} {vm vx : Value} (ho : o.op = .call { callee := .builtin .delete, args := #[m, x], argTypes := #[t, k] }) (hN : o.dst = none) (hm : a.eval m = vm) (hx : a.eval x = vx)
    (hr : (Builtin.delete_ #[t, k] o.type #[vm, vx]).run P w = .ok (.tuple #[]) w') (h : K a w') : o.wp P a w K Q := by
  have h1 : (execOp a.eval o).run P w = .ok (.value (.tuple #[])) w' := by
    unfold execOp
    simp [ho, resolve, invoke, builtin, hm, hx, hr]
  unfold Oper.wp
  rw [h1, Oper.upon_value]
  rw [hN]; exact h
end
theorem empt (s : ByteArray) : s.toList.isEmpty = decide (s.size = 0) := by
  rw [Lib.toList_data]
  have : s.size = s.data.toList.length := rfl
  rw [this]
  cases s.data.toList <;> simp
theorem MapIs.mono {w : World} {b n n' : Nat} {T : List Bl} (h : MapIs w b n T) (hn : n ≤ n') : MapIs w b n' T := by obtain ⟨D, h1, h2⟩ := h; exact ⟨D, h1.mono hn, h2⟩
def applyT (T : List Bl) (l : List Bl) : List Bl := l.foldl patch1 T
def CCell (w : World) (cb jb mb : Nat) (ver : Int) : Prop := w.heap[cb]? = some (.cells #[.pointer (some ⟨jb, 0, none⟩), .int .i64 ver, .map (some mb)] 84 (0, 0))
theorem CCell.c0 {w : World} {cb jb mb : Nat} {ver : Int} (h : CCell w cb jb mb ver) : w.cell? ⟨cb, 0, none⟩ = some (.pointer (some ⟨jb, 0, none⟩)) := cell_of_row w _ 0 _ _ _ h
theorem CCell.c1 {w : World} {cb jb mb : Nat} {ver : Int} (h : CCell w cb jb mb ver) : w.cell? ⟨cb, 1, none⟩ = some (.int .i64 ver) := cell_of_row w _ 1 _ _ _ h
theorem CCell.c2 {w : World} {cb jb mb : Nat} {ver : Int} (h : CCell w cb jb mb ver) : w.cell? ⟨cb, 2, none⟩ = some (.map (some mb)) := cell_of_row w _ 2 _ _ _ h
theorem CCell.fz {w : World} {cb jb mb : Nat} {ver : Int} (h : CCell w cb jb mb ver) (i : Nat) : w.frozen? ⟨cb, i, none⟩ = false := frozen_of_row w _ i _ _ h
theorem CCell.fr {w w' : World} {cb jb mb : Nat} {ver : Int} {S : Nat → Prop} (h : CCell w cb jb mb ver) (k : Fr w w' S) (hn : ¬ S cb) : CCell w' cb jb mb ver := k.heap h hn
theorem CCell.set {w : World} {cb jb mb : Nat} {ver : Int} (h : CCell w cb jb mb ver) (v : Int) : CCell (w.setCell ⟨cb, 1, none⟩ (.int .i64 v)) cb jb mb v := by
  have := heap_setCell_same w cb 1 _ _ (.int .i64 v) h
  simpa [CCell] using this
def ApPost (cb jb mb : Nat) (ver : Int) (n : Nat) (T : List Bl) (w : World) (e : Ending) (w' : World) : Prop :=
  e = .returned (.tuple #[]) ∧ CCell w' cb jb mb ver ∧ MapIs w' mb n T ∧ Fr w w' (fun k => k = cb ∨ k = mb)
set_option maxHeartbeats 1000000 in
set_option maxRecDepth 100000 in
theorem apply_any (cb jb mb n : Nat) (ver0 ver : Int) (v : Value) (T l : List Bl) (w : World) (hc : CCell w cb jb mb ver0) (hm : MapIs w mb n T) (hb : BlobsAt w v l) (hne : v.ownBlock ≠ some cb)
    (hf : ∀ x ∈ l, x.fits) (hn : n + l.length ≤ 1000000000) :
    Calls Tryz.prog 48 #[.pointer (some ⟨cb, 0, none⟩), .int .i64 ver, v] w (ApPost cb jb mb ver (n + l.length) (applyT T l) w) := by
  have c1 := hc.c1
  have f1 := hc.fz 1
  have hlt := lt_of_heap hc
  have hcm := hm.ne_cells hc
  obtain ⟨ao, c, rfl, hnil⟩ := hb.sl
  have hbm : ∀ b o, ao = some ⟨b, o, none⟩ → l ≠ [] → b ≠ mb := by
    rintro b o rfl hl
    obtain ⟨x, r, rfl⟩ := List.exists_cons_of_ne_nil hl
    have h1 := hb.nth 0 (by simp) 0 _ rfl
    intro e
    subst e
    obtain ⟨D, ⟨es, clock, he, _⟩, _⟩ := hm
    simp [World.cell?, he] at h1
  have HC := Lib.hid hc
  have HM := Lib.hid hm
  have HB := Lib.hid hb
  have HNE := Lib.hid hne
  have HF := Lib.hid hf
  have HNIL := Lib.hid hnil
  have HBM := Lib.hid hbm
  clear hc hm hb hne hf hnil hbm
  go_enter Tryz.func48, Tryz.ntmps48
  go_wp2_with fail
  have C2 := Lib.hid (HC.out.set ver)
  have F2 : Hid (Fr w (w.setCell ⟨cb, 1, none⟩ (.int .i64 ver)) (fun k => k = cb ∨ k = mb)) := (Fr.refl _ _).setCell _ _ (fun _ => .inl rfl)
  have M2 : Hid (MapIs (w.setCell ⟨cb, 1, none⟩ (.int .i64 ver)) mb n T) := HM.out.fr (S := fun k => k = cb) ((Fr.refl _ _).setCell _ _ (fun _ => rfl)) (fun e => hcm e.symm)
  have B2 : Hid (BlobsAt (w.setCell ⟨cb, 1, none⟩ (.int .i64 ver)) (.slice ao l.length c) l) := HB.out.fr (S := fun k => k = cb) ((Fr.refl _ _).setCell _ _ (fun _ => rfl)) (fun b hb e => HNE.out (e ▸ hb))
  generalize w.setCell ⟨cb, 1, none⟩ (.int .i64 ver) = w2 at *
  go_loopw [14] (fun v wr => ∃ i : Nat, v = .int .i64 i ∧ i ≤ l.length ∧ Hid (CCell wr cb jb mb ver) ∧ Hid (MapIs wr mb (n + i) (applyT T (l.take i))) ∧ Hid (BlobsAt wr (.slice ao l.length c) l) ∧ Hid (Fr w wr (fun k => k = cb ∨ k = mb))) (fun v _ => l.length - (intOf v).toNat)
  case atStart => exact ⟨0, rfl, by omega, C2.out, M2.out, B2.out, F2.out⟩
  case round =>
    obtain ⟨i, rfl, hi, hC, hM, hB, hF⟩ := hrel
    by_cases hic : i < l.length
    · have hic' : (i : Int) < (l.length : Int) := by omega
      obtain ⟨b, o, rfl⟩ := HNIL.out (by intro h; subst h; simp at hic)
      have hbm := HBM.out b o rfl (by intro h; subst h; simp at hic)
      have hx := hB.out.nth i hic
      have hx4 := range4 hx
      have hfx := HF.out (l[i]) (List.getElem_mem hic)
      have hnext : Hid (patch1 (applyT T (l.take i)) (l[i]) = applyT T (l.take (i + 1))) := by
        show _ = _; unfold applyT; rw [List.take_succ_eq_append_getElem hic, List.foldl_append]; rfl
      generalize l[i] = x at *
      obtain ⟨⟨z, x, y⟩, s⟩ := x
      have HFX := Lib.hid hfx
      obtain ⟨k0, k1, k2, k3⟩ := hx4
      simp only at k0 k1 k2 k3
      have hS0 : (wr.alloc (.cells #[.int .i64 z, .int .i64 x, .int .i64 y, .string s] 93)).rangeAt wr.heap.size 0 (Bl.mk ⟨z, x, y⟩ s).cells := range_new wr ⟨⟨z, x, y⟩, s⟩
      have HS0 := Lib.hid hS0
      have hl1 : Hid (wr.heap.size < (wr.alloc (.cells #[.int .i64 z, .int .i64 x, .int .i64 y, .string s] 93)).heap.size) := by show _ < _; simp
      have C3 : Hid (CCell (wr.alloc (.cells #[.int .i64 z, .int .i64 x, .int .i64 y, .string s] 93)) cb jb mb ver) := hC.out.fr ((Fr.refl _ Nowhere).alloc _) (fun h => h)
      have M3 : Hid (MapIs (wr.alloc (.cells #[.int .i64 z, .int .i64 x, .int .i64 y, .string s] 93)) mb (n + i) (applyT T (l.take i))) := hM.out.fr ((Fr.refl _ Nowhere).alloc _) (fun h => h)
      have B3 : Hid (BlobsAt (wr.alloc (.cells #[.int .i64 z, .int .i64 x, .int .i64 y, .string s] 93)) (.slice (some ⟨b, o, none⟩) l.length c) l) := hB.out.fr ((Fr.refl _ Nowhere).alloc _) (fun _ _ h => h)
      have F3 : Hid (Fr w (wr.alloc (.cells #[.int .i64 z, .int .i64 x, .int .i64 y, .string s] 93)) (fun k => k = cb ∨ k = mb)) := hF.out.alloc _
      clear hx hfx hS0
      have hmlt := Lib.hid hM.out.lt
      have hsS : ∀ w' : World, w' = wr.alloc (.cells #[.int .i64 z, .int .i64 x, .int .i64 y, .string s] 93) → w'.drew.cell? ⟨cb, 2, none⟩ = some (.map (some mb)) ∧ w'.drew.rangeAt wr.heap.size 0 (Bl.mk ⟨z, x, y⟩ s).cells := by
        rintro w' rfl; exact ⟨C3.out.c2, HS0.out⟩
      have hS := hsS _ rfl
      have HSS := Lib.hid hS
      clear hsS hS
      rcases hse : s.toList.isEmpty with _ | _
      · have hsz : ¬ s.size = 0 := by intro h; rw [empt, h] at hse; simp at hse
        have hn2 : Hid (patch1 (applyT T (l.take i)) ⟨⟨z, x, y⟩, s⟩ = insT (applyT T (l.take i)) ⟨⟨z, x, y⟩, s⟩) := by show _ = _; unfold patch1; rw [if_neg hsz]
        go_wp2_with fail
        generalize hw1 : wr.alloc (.cells #[.int .i64 z, .int .i64 x, .int .i64 y, .string s] 93) = w1 at *
        clear hw1
        refine region_seq (fun w' => w'.cell? ⟨cb, 2, none⟩ = some (.map (some mb)) ∧ w'.rangeAt wr.heap.size 0 (Bl.mk ⟨z, x, y⟩ s).cells) [8]
          [(.p, 0), (.p, 1), (.p, 2), (.q, 3), (.p, 4), (.q, 5), (.p, 6), (.q, 7), (.d, 8)] (by kernel_rfl) (by kernel_rfl) (by kernel_rfl) (by kernel_rfl) (fun d v c a w h => by cases d <;> exact h) ?_
        have hS := HSS.out
        (refine seq_p (N := some 27) rfl rfl (by rfl) ?_ (fun w' => ?_) ?_
         rotate_left
         · go_simp
           with_reducible rfl
         simp only [Act.put, List.setIfInBounds_toArray, List.set_cons_zero, List.set_cons_succ])
        (refine seq_p (N := some 28) rfl rfl (by rfl) ?_ (fun w' => ?_) ?_
         rotate_left
         · go_simp
           with_reducible rfl
         simp only [Act.put, List.setIfInBounds_toArray, List.set_cons_zero, List.set_cons_succ])
        (refine seq_p (N := some 29) rfl rfl (by rfl) ?_ (fun w' => ?_) ?_
         rotate_left
         · go_simp
           with_reducible rfl
         simp only [Act.put, List.setIfInBounds_toArray, List.set_cons_zero, List.set_cons_succ])
        (refine seq_q (N := some 30) rfl rfl (by rfl) ?_ ?_ hS ?_
         rotate_left
         · rintro w' ⟨s1, s2⟩
           go_simp
           with_reducible rfl
         simp only [Act.put, List.setIfInBounds_toArray, List.set_cons_zero, List.set_cons_succ])
        (refine seq_p (N := some 31) rfl rfl (by rfl) ?_ (fun w' => ?_) ?_
         rotate_left
         · go_simp
           with_reducible rfl
         simp only [Act.put, List.setIfInBounds_toArray, List.set_cons_zero, List.set_cons_succ])
        (refine seq_q (N := some 32) rfl rfl (by rfl) (Tl.mk z x y).v ?_ hS ?_
         · rintro w' ⟨s1, s2⟩
           exact run_ld rfl rfl (load_tile (range_tile s2))
         simp only [Act.put, List.setIfInBounds_toArray, List.set_cons_zero, List.set_cons_succ])
        (refine seq_p (N := some 33) rfl rfl (by rfl) ?_ (fun w' => ?_) ?_
         rotate_left
         · go_simp
           with_reducible rfl
         simp only [Act.put, List.setIfInBounds_toArray, List.set_cons_zero, List.set_cons_succ])
        (refine seq_q (N := some 34) rfl rfl (by rfl) (.string s) ?_ hS ?_
         · rintro w' ⟨s1, s2⟩
           have s3 := (range4 s2).2.2.2
           simp only [Nat.zero_add] at s3
           go_simp
         simp only [Act.put, List.setIfInBounds_toArray, List.set_cons_zero, List.set_cons_succ])
        obtain ⟨w4, hr4, hm4, hg4⟩ := (M3.out.drewN 1).store ⟨⟨z, x, y⟩, s⟩ ⟨HFX.out.1, HFX.out.2.1, HFX.out.2.2.1⟩ (by have := HFX.out.2.2.2; unfold maxLen; omega) (by unfold maxLen; omega)
        refine seq_d rfl (by rfl) (wp_upd rfl rfl rfl rfl rfl hr4 ?_)
        refine seq_nil ?_
        have hF4 : Fr w1 w4 (fun k => k = mb) := ((Fr.refl w1 _).drewN 1).tr (Fr.grown hg4 (fun k hk _ => by injection hk with hk; exact hk.symm))
        have C5 := Lib.hid (C3.out.fr hF4 hcm)
        have M5 : Hid (MapIs w4 mb (n + (i + 1)) (applyT T (l.take (i + 1)))) := by show MapIs _ _ _ _; rw [← hnext.out, hn2.out]; exact hm4
        have B5 := Lib.hid (B3.out.fr hF4 (fun b' hb' e => by simp only [Value.ownBlock, Option.some.injEq] at hb'; exact hbm (hb'.trans e)))
        have F5 := Lib.hid (F3.out.tr (hF4.mono (fun _ _ h => .inr h)))
        clear hr4 hm4 hg4 hF4 hS
        go_wp2_with fail
        go_roundw
        case rel => exact ⟨i + 1, by go_num, by omega, C5.out, M5.out, B5.out, F5.out⟩
        case measure => simp [intOf]; omega
      · have hsz : s.size = 0 := by rw [empt] at hse; simpa using hse
        have hn2 : Hid (patch1 (applyT T (l.take i)) ⟨⟨z, x, y⟩, s⟩ = delT (applyT T (l.take i)) ⟨z, x, y⟩) := by show _ = _; unfold patch1; rw [if_pos hsz]
        go_wp2_with fail
        generalize hw1 : wr.alloc (.cells #[.int .i64 z, .int .i64 x, .int .i64 y, .string s] 93) = w1 at *
        clear hw1
        refine region_seq (fun w' => w'.cell? ⟨cb, 2, none⟩ = some (.map (some mb)) ∧ w'.rangeAt wr.heap.size 0 (Bl.mk ⟨z, x, y⟩ s).cells) [6]
          [(.p, 0), (.p, 1), (.p, 2), (.q, 3), (.p, 4), (.q, 5), (.d, 6)] (by kernel_rfl) (by kernel_rfl) (by kernel_rfl) (by kernel_rfl) (fun d v c a w h => by cases d <;> exact h) ?_
        have hS := HSS.out
        (refine seq_p (N := some 21) rfl rfl (by rfl) ?_ (fun w' => ?_) ?_
         rotate_left
         · go_simp
           with_reducible rfl
         simp only [Act.put, List.setIfInBounds_toArray, List.set_cons_zero, List.set_cons_succ])
        (refine seq_p (N := some 22) rfl rfl (by rfl) ?_ (fun w' => ?_) ?_
         rotate_left
         · go_simp
           with_reducible rfl
         simp only [Act.put, List.setIfInBounds_toArray, List.set_cons_zero, List.set_cons_succ])
        (refine seq_p (N := some 23) rfl rfl (by rfl) ?_ (fun w' => ?_) ?_
         rotate_left
         · go_simp
           with_reducible rfl
         simp only [Act.put, List.setIfInBounds_toArray, List.set_cons_zero, List.set_cons_succ])
        (refine seq_q (N := some 24) rfl rfl (by rfl) ?_ ?_ hS ?_
         rotate_left
         · rintro w' ⟨s1, s2⟩
           go_simp
           with_reducible rfl
         simp only [Act.put, List.setIfInBounds_toArray, List.set_cons_zero, List.set_cons_succ])
        (refine seq_p (N := some 25) rfl rfl (by rfl) ?_ (fun w' => ?_) ?_
         rotate_left
         · go_simp
           with_reducible rfl
         simp only [Act.put, List.setIfInBounds_toArray, List.set_cons_zero, List.set_cons_succ])
        (refine seq_q (N := some 26) rfl rfl (by rfl) (Tl.mk z x y).v ?_ hS ?_
         · rintro w' ⟨s1, s2⟩
           exact run_ld rfl rfl (load_tile (range_tile s2))
         simp only [Act.put, List.setIfInBounds_toArray, List.set_cons_zero, List.set_cons_succ])
        obtain ⟨w4, hr4, hm4, hg4⟩ := (M3.out.drewN 1).drop ⟨z, x, y⟩ ⟨HFX.out.1, HFX.out.2.1, HFX.out.2.2.1⟩ 0
        refine seq_d rfl (by rfl) (wp_dele rfl rfl rfl rfl hr4 ?_)
        refine seq_nil ?_
        have hF4 : Fr w1 w4 (fun k => k = mb) := ((Fr.refl w1 _).drewN 1).tr (Fr.grown hg4 (fun k hk _ => by injection hk with hk; exact hk.symm))
        have C5 := Lib.hid (C3.out.fr hF4 hcm)
        have M5 : Hid (MapIs w4 mb (n + (i + 1)) (applyT T (l.take (i + 1)))) := by show MapIs _ _ _ _; rw [← hnext.out, hn2.out]; exact hm4.mono (by omega)
        have B5 := Lib.hid (B3.out.fr hF4 (fun b' hb' e => by simp only [Value.ownBlock, Option.some.injEq] at hb'; exact hbm (hb'.trans e)))
        have F5 := Lib.hid (F3.out.tr (hF4.mono (fun _ _ h => .inr h)))
        clear hr4 hm4 hg4 hF4 hS
        go_wp2_with fail
        go_roundw
        case rel => exact ⟨i + 1, by go_num, by omega, C5.out, M5.out, B5.out, F5.out⟩
        case measure => simp [intOf]; omega
    · have hic' : ¬ (i : Int) < (l.length : Int) := by omega
      obtain rfl : i = l.length := by omega
      go_wp2_with fail
      go_end0
      refine ⟨rfl, hC.out, ?_, hF.out⟩
      have := hM.out
      rw [List.take_length] at this
      exact this
end Go.Proofs.YtjflcpkmoamijaaGreatDoor
