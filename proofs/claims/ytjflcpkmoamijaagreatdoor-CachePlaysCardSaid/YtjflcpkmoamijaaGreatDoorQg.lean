import Derived.Test.YtjflcpkmoamijaaGreatDoorQf
namespace Go.Proofs.YtjflcpkmoamijaaGreatDoor
open Go.RowKit
set_option linter.unusedVariables false
set_option linter.unusedSimpArgs false
set_option linter.unnecessarySimpa false

/-! ### The reference's cache -/
set_option maxHeartbeats 2000000 in
set_option maxRecDepth 100000 in
theorem RPatchO_any (tv dv : Value) (T l : List Bl) (w : World) (ht : BlobsAt w tv T) (hT : TGood T) (hd : BlobsAt w dv l) (ho : ordB l = true) (hf : Fits l) (hl : T.length + l.length ≤ 100000000) :
    Calls Tryz.prog 51 #[tv, dv] w fun e w' => ∃ v', e = .returned v' ∧ BlobsAt w' v' (applyT T l) ∧ ((l = [] ∧ v' = tv) ∨ Fresh w v' w') ∧ Below w.heap.size w w' := by
  obtain ⟨ao, c, rfl, hne⟩ := hd.sl
  have HD := Lib.hid hd
  have HNE := Lib.hid hne
  have HTV := Lib.hid ht
  have HC := Lib.hid (RCheck33_any tv T w ht hT (by omega))
  have HTG := Lib.hid hT
  have HF := Lib.hid hf
  have HO := Lib.hid ho
  have HOK := Lib.hid (ord_ok ho)
  clear ht hT hd ho hf hne
  go_enter Tryz.func51, Tryz.ntmps51
  go_wp2_with fail
  refine HC.out.mono ?_
  rintro e w2 ⟨rfl, b2⟩
  have D2 := Lib.hid (HD.out.fr (Fr.of_below b2 Nowhere) (fun _ _ h => h))
  have T2 := Lib.hid (HTV.out.fr (Fr.of_below b2 Nowhere) (fun _ _ h => h))
  have B2 := Lib.hid b2
  have hor := ROrdered_any _ l w2 D2.out (by omega)
  rw [HO.out] at hor
  have HOR := Lib.hid hor
  clear b2 hor HC
  go_wp2_with (refine HOR.out.mono ?_; rintro e w3 ⟨rfl, b3⟩; have D3 := Lib.hid (D2.out.fr (Fr.of_below b3 Nowhere) (fun _ _ h => h)); have T3 := Lib.hid (T2.out.fr (Fr.of_below b3 Nowhere) (fun _ _ h => h)); have B3 := Lib.hid (B2.out.trans (b3.mono B2.out.size)); clear b3)
  go_loopw [0, 5] (fun ov iv wr => ∃ (i : Nat) (Ti : List Bl), iv = .int .i64 i ∧ i ≤ l.length ∧ Ti.length ≤ T.length + i ∧ Hid (Ti = applyT T (l.take i)) ∧ Hid (TGood Ti) ∧ Hid (BlobsAt wr ov Ti) ∧ Hid ((i = 0 ∧ ov = tv) ∨ Fresh w ov wr) ∧ Hid (Below w.heap.size w wr)) (fun _ iv _ => l.length - (intOf iv).toNat)
  case atStart => exact ⟨0, T, rfl, by omega, by omega, rfl, HTG.out, T3.out, .inl ⟨rfl, rfl⟩, B3.out⟩
  case round =>
    obtain ⟨i, Ti, rfl, hi, hTi, hTe, hTg, hTb, hOV, hB⟩ := hrel
    by_cases hic : i < l.length
    · have hic' : (i : Int) < (l.length : Int) := by omega
      obtain ⟨b, o, rfl⟩ := HNE.out (by intro h; subst h; simp at hic)
      have hx := (HD.out.fr (Fr.of_below hB.out Nowhere) (fun _ _ h => h)).nth i hic
      have hfx := HF.out (l[i]) (List.getElem_mem hic)
      have hokx := HOK.out (l[i]) (List.getElem_mem hic)
      have hnext : Hid (patch1 Ti (l[i]) = applyT T (l.take (i + 1))) := by
        show _ = _; rw [hTe.out]; unfold applyT; rw [List.take_succ_eq_append_getElem hic, List.foldl_append]; rfl
      generalize l[i] = x at *
      have hgood : Hid (TGood (patch1 Ti x)) := hTg.out.apply (l := [x]) (by intro b hb; rw [List.mem_singleton.1 hb]; exact hfx) (by intro b hb; rw [List.mem_singleton.1 hb]; exact hokx)
      have hlen : (patch1 Ti x).length ≤ T.length + (i + 1) := by
        have := apply_len [x] Ti
        show (applyT Ti [x]).length ≤ _
        simp at this; omega
      have HLEN := Lib.hid hlen
      have HPL := Lib.hid (putL_patch x Ti hTg.out.so)
      have HX := Lib.hid hx
      clear hfx hokx hlen hx
      go_wp2_with fail
      refine region_seq (fun w' => w'.rangeAt b (o + i * 4) x.cells) []
        [(.p, 0), (.p, 1), (.p, 2), (.p, 3), (.p, 4), (.q, 5), (.p, 6), (.p, 7), (.p, 8), (.p, 9), (.q, 10), (.l, 11), (.p, 12)] (by kernel_rfl) (by kernel_rfl) (by kernel_rfl) (by kernel_rfl) (fun d v c a w h => by cases d <;> exact h) ?_
      have hS : wr.drew.rangeAt b (o + i * 4) x.cells := HX.out
      (refine seq_p (N := some 20) rfl rfl (by rfl) ?_ (fun w' => ?_) ?_
       rotate_left
       · go_simp
         with_reducible rfl
       simp only [Act.put, List.setIfInBounds_toArray, List.set_cons_zero, List.set_cons_succ])
      (refine seq_p (N := some 21) rfl rfl (by rfl) ?_ (fun w' => ?_) ?_
       rotate_left
       · go_simp
         with_reducible rfl
       simp only [Act.put, List.setIfInBounds_toArray, List.set_cons_zero, List.set_cons_succ])
      (refine seq_p (N := some 22) rfl rfl (by rfl) ?_ (fun w' => ?_) ?_
       rotate_left
       · go_simp
         with_reducible rfl
       simp only [Act.put, List.setIfInBounds_toArray, List.set_cons_zero, List.set_cons_succ])
      (refine seq_p (N := some 23) rfl rfl (by rfl) ?_ (fun w' => ?_) ?_
       rotate_left
       · go_simp
         with_reducible rfl
       simp only [Act.put, List.setIfInBounds_toArray, List.set_cons_zero, List.set_cons_succ])
      (refine seq_p (N := some 24) rfl rfl (by rfl) ?_ (fun w' => ?_) ?_
       rotate_left
       · go_simp
         with_reducible rfl
       simp only [Act.put, List.setIfInBounds_toArray, List.set_cons_zero, List.set_cons_succ])
      (refine seq_q (N := some 25) rfl rfl (by rfl) x.t.v ?_ hS ?_
       · rintro w' s2
         exact run_ld rfl rfl (load_tile (range_tile s2))
       simp only [Act.put, List.setIfInBounds_toArray, List.set_cons_zero, List.set_cons_succ])
      (refine seq_p (N := some 26) rfl rfl (by rfl) ?_ (fun w' => ?_) ?_
       rotate_left
       · go_simp
         with_reducible rfl
       simp only [Act.put, List.setIfInBounds_toArray, List.set_cons_zero, List.set_cons_succ])
      (refine seq_p (N := some 27) rfl rfl (by rfl) ?_ (fun w' => ?_) ?_
       rotate_left
       · go_simp
         with_reducible rfl
       simp only [Act.put, List.setIfInBounds_toArray, List.set_cons_zero, List.set_cons_succ])
      (refine seq_p (N := some 28) rfl rfl (by rfl) ?_ (fun w' => ?_) ?_
       rotate_left
       · go_simp
         with_reducible rfl
       simp only [Act.put, List.setIfInBounds_toArray, List.set_cons_zero, List.set_cons_succ])
      (refine seq_p (N := some 29) rfl rfl (by rfl) ?_ (fun w' => ?_) ?_
       rotate_left
       · go_simp
         with_reducible rfl
       simp only [Act.put, List.setIfInBounds_toArray, List.set_cons_zero, List.set_cons_succ])
      (refine seq_q (N := some 30) rfl rfl (by rfl) (.string x.s) ?_ hS ?_
       · rintro w' s2
         have k3 := (range4 s2).2.2.2
         go_simp
       simp only [Act.put, List.setIfInBounds_toArray, List.set_cons_zero, List.set_cons_succ])
      have hput := RPut33_any u0 Ti x wr.drew (hTb.out.drewN 1) (by omega)
      rw [HPL.out] at hput
      refine seq_l rfl (by rfl) (wp_cl (N := some 31) (f := 90) (vs := #[u0, x.t.v, .string x.s]) rfl rfl (by simp [Act.eval]) (callF Tryz.func90 rfl (by decide) _ _) ?_)
      refine hput.mono ?_
      rintro e w5 ⟨v5, rfl, o5, b5⟩
      have b5' : Below wr.heap.size wr w5 := ((Below.refl wr.heap.size wr).drew).trans (by exact b5)
      have B5 := Lib.hid (hB.out.trans (b5'.mono hB.out.size))
      have V5 := Lib.hid (own_blobs o5)
      have hbs : w.heap.size ≤ wr.drew.heap.size := hB.out.size
      have F5 : Hid (Fresh w v5 w5) := fun k hk => ⟨Nat.le_trans hbs (own_base' o5 hk).1, (own_base' o5 hk).2⟩
      have S5 := rangeAt_fr HX.out (Fr.of_below b5' Nowhere) (fun h => h)
      refine ⟨_, rfl, ?_⟩
      simp only [Act.put, List.setIfInBounds_toArray, List.set_cons_zero, List.set_cons_succ]
      refine ⟨fun _ => S5, ?_⟩
      clear b5 b5' S5 o5 hput hS hbs
      (refine seq_p (N := some 0) rfl rfl (by rfl) ?_ (fun w' => ?_) ?_
       rotate_left
       · go_simp
         with_reducible rfl
       simp only [Act.put, List.setIfInBounds_toArray, List.set_cons_zero, List.set_cons_succ])
      refine seq_nil ?_
      go_wp2_with fail
      go_roundw
      case rel => exact ⟨i + 1, _, by go_num, by omega, HLEN.out, hnext.out, hgood.out, V5.out, .inr F5.out, B5.out⟩
      case measure => simp [intOf]; omega
    · have hic' : ¬ (i : Int) < (l.length : Int) := by omega
      have hfin : Hid (Ti = applyT T l) := by show _ = _; rw [hTe.out, List.take_of_length_le (by omega)]
      go_wp2_with fail
      go_ret
      rw [← hfin.out]
      refine ⟨_, rfl, hTb.out, ?_, hB.out⟩
      rcases hOV.out with ⟨h0, h1⟩ | h1
      · exact .inl ⟨List.eq_nil_of_length_eq_zero (by omega), h1⟩
      · exact .inr h1
/-- A function that returns a reference cache and something. -/
theorem ret_ct {fn : Func} {R : Ending → World → Prop} {a : Act} {w : World} {c t : Tmp} (hres : fn.results = #[.cell c 40, .tmp t]) (b : Nat) (hc : a.tmps.getD c undef = .pointer (some ⟨b, 0, none⟩)) (ao : Option Addr) (n cp : Nat) (V : Int) (ao2 : Option Addr) (n2 cp2 : Nat)
    (hg : w.heap[b]? = some (.cells #[.slice ao n cp, .int .i64 V, .slice ao2 n2 cp2] 40 (0, 0))) (hd : a.defers = []) (hR : R (.returned (.tuple #[.agg #[.slice ao n cp, .int .i64 V, .slice ao2 n2 cp2], a.tmps.getD t undef])) w) : bodyPost Tryz.prog fn R .ret a w := by
  have hl := run_loadVar_row (P := Tryz.prog) w b 40 40 _ _ _ hg Tryz.underlying40 rfl (by kernel_rfl)
  refine bodyPost_ret (v := .tuple #[.agg #[.slice ao n cp, .int .i64 V, .slice ao2 n2 cp2], a.tmps.getD t undef]) ?_ hd hR
  unfold results
  rw [hres]
  have hc' : a.tmps[c]?.getD undef = .pointer (some ⟨b, 0, none⟩) := by simpa using hc
  simp [hc', asAddr, hl]
structure PB (w wr : World) (bx rx : Nat) (x y z : Value) : Prop where
  hx : wr.heap[bx]? = some (.cells #[x, y, z] 40 (0, 0))
  hr : wr.heap[rx]? = some (.cells #[.slice none 0 0, .int .i64 0, .slice none 0 0] 40 (0, 0))
  bel : Below w.heap.size w wr
  b1 : w.heap.size ≤ bx
  b2 : w.heap.size ≤ rx
theorem PB.below {w wr w' : World} {bx rx : Nat} {x y z : Value} (h : PB w wr bx rx x y z) (b : Below wr.heap.size wr w') : PB w w' bx rx x y z :=
  ⟨(b.block _ (lt_of_heap h.hx)).trans h.hx, (b.block _ (lt_of_heap h.hr)).trans h.hr, h.bel.trans (b.mono h.bel.size), h.b1, h.b2⟩
theorem PB.c0 {w wr : World} {bx rx : Nat} {x y z : Value} (h : PB w wr bx rx x y z) : wr.cell? ⟨bx, 0, none⟩ = some x := cell_of_row wr _ 0 _ _ _ h.hx
theorem PB.c1 {w wr : World} {bx rx : Nat} {x y z : Value} (h : PB w wr bx rx x y z) : wr.cell? ⟨bx, 1, none⟩ = some y := cell_of_row wr _ 1 _ _ _ h.hx
theorem PB.c2 {w wr : World} {bx rx : Nat} {x y z : Value} (h : PB w wr bx rx x y z) : wr.cell? ⟨bx, 2, none⟩ = some z := cell_of_row wr _ 2 _ _ _ h.hx
theorem PB.r0 {w wr : World} {bx rx : Nat} {x y z : Value} (h : PB w wr bx rx x y z) : wr.cell? ⟨rx, 0, none⟩ = some (.slice none 0 0) := cell_of_row wr _ 0 _ _ _ h.hr
theorem PB.r1 {w wr : World} {bx rx : Nat} {x y z : Value} (h : PB w wr bx rx x y z) : wr.cell? ⟨rx, 1, none⟩ = some (.int .i64 0) := cell_of_row wr _ 1 _ _ _ h.hr
theorem PB.r2 {w wr : World} {bx rx : Nat} {x y z : Value} (h : PB w wr bx rx x y z) : wr.cell? ⟨rx, 2, none⟩ = some (.slice none 0 0) := cell_of_row wr _ 2 _ _ _ h.hr
theorem PB.fz {w wr : World} {bx rx : Nat} {x y z : Value} (h : PB w wr bx rx x y z) (i : Nat) : wr.frozen? ⟨rx, i, none⟩ = false := frozen_of_row wr _ i _ _ h.hr
theorem PB.fx {w wr : World} {bx rx : Nat} {x y z : Value} (h : PB w wr bx rx x y z) (i : Nat) : wr.frozen? ⟨bx, i, none⟩ = false := frozen_of_row wr _ i _ _ h.hx
theorem PB.two (w : World) (x y z : Value) : PB w ((w.alloc (.cells #[x, y, z] 40)).alloc (.cells #[.slice none 0 0, .int .i64 0, .slice none 0 0] 40)) w.heap.size (w.heap.size + 1) x y z := by
  have h := two_boxes w _ #[x, y, z] #[.slice none 0 0, .int .i64 0, .slice none 0 0] 40 (Below.refl _ _)
  exact ⟨h.1, h.2.1, h.2.2, Nat.le_refl _, by omega⟩
set_option maxHeartbeats 1000000 in
set_option maxRecDepth 100000 in
theorem ROpen_short (v : Value) (n : Nat) (w : World) (hv : ∃ ao c, v = .slice ao n c) (hn : n < 5) :
    Calls Tryz.prog 21 #[v] w fun e w' => e = .returned (.tuple #[.agg #[.slice none 0 0, .int .i64 0, .slice none 0 0], .int .i64 12]) ∧ Below w.heap.size w w' := by
  have HR := Lib.hid (fun w => RRecords_short v n w hv hn)
  obtain ⟨ao, c, rfl⟩ := hv
  have b1 := (Below.refl w.heap.size w).alloc (Nat.le_refl _) (.cells #[.slice none 0 0, .int .i64 0, .slice none 0 0] 40)
  have g1 := heap_alloc_new w (.cells #[.slice none 0 0, .int .i64 0, .slice none 0 0] 40)
  have B1 := Lib.hid b1
  have G1 := Lib.hid g1
  clear b1 g1
  go_enter Tryz.func21, Tryz.ntmps21
  go_wp2_with fail
  generalize w.alloc (.cells #[.slice none 0 0, .int .i64 0, .slice none 0 0] 40) = w1 at *
  obtain ⟨rx, hrx⟩ : ∃ rx, w.heap.size = rx := ⟨_, rfl⟩
  rw [hrx] at G1 ⊢
  have r0 := cell_of_row w1 _ 0 _ _ _ G1.out
  have r1 := cell_of_row w1 _ 1 _ _ _ G1.out
  have r2 := cell_of_row w1 _ 2 _ _ _ G1.out
  have z0 := frozen_of_row w1 _ 0 _ _ G1.out
  have z1 := frozen_of_row w1 _ 1 _ _ G1.out
  have z2 := frozen_of_row w1 _ 2 _ _ G1.out
  have HLE : Hid (w.heap.size ≤ rx) := by show _ ≤ _; omega
  clear hrx
  go_wp2_with (refine (HR.out _).mono ?_; rintro e w2 ⟨rfl, rfl⟩)
  exact ret_ct rfl rx rfl none 0 0 0 none 0 0 (heap3 G1.out _ _ _) rfl ⟨rfl, set3 B1.out HLE.out _ _ _⟩
set_option maxHeartbeats 1000000 in
set_option maxRecDepth 100000 in
theorem ROpen_any (v : Value) {D : Dev} {ep u : Nat} (w : World) (h : BksAt w v D) (hd : Rd D ep u []) :
    Calls Tryz.prog 21 #[v] w fun e w' => ∃ tv, e = .returned (.tuple #[.agg #[v, .int .i64 (-1), tv], .int .i64 0]) ∧ BlobsAt w' tv [] ∧ Below w.heap.size w w' := by
  have HR := Lib.hid (fun w h => RRecords_any v w h hd)
  have H := Lib.hid h
  obtain ⟨ao, c, rfl⟩ := h.sl
  have b1 := (Below.refl w.heap.size w).alloc (Nat.le_refl _) (.cells #[.slice none 0 0, .int .i64 0, .slice none 0 0] 40)
  have g1 := heap_alloc_new w (.cells #[.slice none 0 0, .int .i64 0, .slice none 0 0] 40)
  have B1 := Lib.hid b1
  have G1 := Lib.hid g1
  have H1 := Lib.hid (H.out.below ((Below.refl w.heap.size w).alloc (Nat.le_refl _) (.cells #[.slice none 0 0, .int .i64 0, .slice none 0 0] 40)))
  clear b1 g1 h hd
  go_enter Tryz.func21, Tryz.ntmps21
  go_wp2_with fail
  generalize w.alloc (.cells #[.slice none 0 0, .int .i64 0, .slice none 0 0] 40) = w1 at *
  obtain ⟨rx, hrx⟩ : ∃ rx, w.heap.size = rx := ⟨_, rfl⟩
  rw [hrx] at G1 ⊢
  have HLE : Hid (w.heap.size ≤ rx) := by show _ ≤ _; omega
  clear hrx
  refine (HR.out w1 H1.out).mono ?_
  rintro e w2 ⟨vl, rfl, s2, b2⟩
  have B2 := Lib.hid (B1.out.trans (b2.mono B1.out.size))
  have G2 : Hid (w2.heap[rx]? = some (.cells #[.slice none 0 0, .int .i64 0, .slice none 0 0] 40 (0, 0))) := (b2.block _ (lt_of_heap G1.out)).trans G1.out
  have HL := Lib.hid (RLoad_any vl [] w2 s2 (by simp) (by simp))
  clear b2 s2 G1 B1
  go_wp2_with fail
  refine HL.out.mono ?_
  rintro e w3 ⟨b3, hp⟩
  have e0 : loadL [] (-1) [] = some (-1, []) := rfl
  rw [e0] at hp
  simp only at hp
  obtain ⟨tv, rfl, ht, _⟩ := hp
  have B3 := Lib.hid (B2.out.trans (b3.mono B2.out.size))
  have G3 : Hid (w3.heap[rx]? = some (.cells #[.slice none 0 0, .int .i64 0, .slice none 0 0] 40 (0, 0))) := (b3.block _ (lt_of_heap G2.out)).trans G2.out
  have T3 := Lib.hid ht
  obtain ⟨ao3, c3, rfl, _⟩ := ht.sl
  clear b3 ht G2 B2 e0
  have r0 := cell_of_row w3 _ 0 _ _ _ G3.out
  have r1 := cell_of_row w3 _ 1 _ _ _ G3.out
  have r2 := cell_of_row w3 _ 2 _ _ _ G3.out
  have z0 := frozen_of_row w3 _ 0 _ _ G3.out
  have z1 := frozen_of_row w3 _ 1 _ _ G3.out
  have z2 := frozen_of_row w3 _ 2 _ _ G3.out
  go_wp2_with fail
  refine ret_ct rfl rx rfl ao D.now.length c (-1) ao3 0 c3 (heap3 G3.out _ _ _) rfl ⟨_, rfl, ?_, set3 B3.out HLE.out _ _ _⟩
  exact BlobsAt.nil_any (w := w) ⟨ao3, c3, rfl⟩ _
end Go.Proofs.YtjflcpkmoamijaaGreatDoor
