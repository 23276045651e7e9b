import Derived.Test.YtjflcpkmoamijaaGreatDoorQh
namespace Go.Proofs.YtjflcpkmoamijaaGreatDoor
open Go.RowKit
set_option linter.unusedVariables false
set_option linter.unusedSimpArgs false
set_option linter.unnecessarySimpa false

theorem compactC_none {C : Cn} (h : C.ver < 0) : compactC C = (C, 0) := by unfold compactC; rw [if_pos h]
theorem compactC_full {C : Cn} (h : ¬ C.ver < 0) (hf : hlf C.J.D < 1 + cnt (encP C.ver C.T).size) : compactC C = (C, 20) := by
  unfold compactC
  rw [if_neg h]
  have e1 : sumC [encP C.ver C.T] = 1 + cnt (encP C.ver C.T).size := by simp [sumC]
  have e : resetP C.J [encP C.ver C.T] = (C.J, false) := by unfold resetP; rw [e1]; exact if_pos hf
  rw [e]
  rfl
theorem compactC_done {C : Cn} (h : ¬ C.ver < 0) (hf : ¬ hlf C.J.D < 1 + cnt (encP C.ver C.T).size) (hlim : C.J.D.lim = false) :
    ∃ J, compactC C = (⟨J, C.ver, C.T⟩, 0) ∧ J.D = wN C.J.D (resetW C.J.D C.J.ep [encP C.ver C.T]) := by
  have hw := wrs_free C.J.D hlim (resetW C.J.D C.J.ep [encP C.ver C.T])
  have e1 : sumC [encP C.ver C.T] = 1 + cnt (encP C.ver C.T).size := by simp [sumC]
  refine ⟨⟨wN C.J.D (resetW C.J.D C.J.ep [encP C.ver C.T]), nextE C.J.ep, sumC [encP C.ver C.T], [encP C.ver C.T]⟩, ?_, rfl⟩
  unfold compactC
  rw [if_neg h]
  have e : resetP C.J [encP C.ver C.T] = (⟨wN C.J.D (resetW C.J.D C.J.ep [encP C.ver C.T]), nextE C.J.ep, sumC [encP C.ver C.T], [encP C.ver C.T]⟩, true) := by
    unfold resetP; rw [e1, if_neg hf, hw]; rfl
  rw [e]
  rfl
set_option maxHeartbeats 2000000 in
set_option maxRecDepth 100000 in
theorem RCCompact_any (vb vt : Value) (C : Cn) (w : World) (hk : BksAt w vb C.J.D) (ht : BlobsAt w vt C.T) (hg : CGood C) (h64 : ∀ b ∈ C.J.D.now, b.length = 64) (hlim : C.J.D.lim = false) (hT : C.T.length ≤ 1000) :
    Calls Tryz.prog 25 #[.agg #[vb, .int .i64 C.ver, vt]] w (CPPost vb vt (compactC C) C.T w) := by
  have K := Lib.hid hk
  have TT := Lib.hid ht
  have G := Lib.hid hg
  have RD := Lib.hid (hg.rd h64)
  have LIM := Lib.hid hlim
  obtain ⟨ao, c, rfl⟩ := hk.sl
  obtain ⟨aot, ct, rfl, _⟩ := ht.sl
  clear hk ht hg h64 hlim
  by_cases hneg : C.ver < 0
  · have HPC := Lib.hid (compactC_none hneg)
    have HB2 := Lib.hid (two_boxes w _ #[.slice ao C.J.D.now.length c, .int .i64 C.ver, .slice aot C.T.length ct] #[.slice ao C.J.D.now.length c, .int .i64 C.ver, .slice aot C.T.length ct] 40 (Below.refl _ _))
    go_enter Tryz.func25, Tryz.ntmps25
    go_wp2_with fail
    refine ret_ct rfl (w.heap.size + 1) rfl ao C.J.D.now.length c C.ver aot C.T.length ct HB2.out.2.1 rfl ?_
    rw [HPC.out]
    exact ⟨_, _, rfl, K.out.fr (Fr.of_below HB2.out.2.2 Nowhere) (fun _ _ h => h), TT.out.fr (Fr.of_below HB2.out.2.2 Nowhere) (fun _ _ h => h), .inl rfl, .inl ⟨rfl, rfl⟩, HB2.out.2.2⟩
  · have HNEG := Lib.hid hneg
    have P0 := Lib.hid (PB.two w (.slice ao C.J.D.now.length c) (.int .i64 C.ver) (.slice aot C.T.length ct))
    go_enter Tryz.func25, Tryz.ntmps25
    go_wp2_with fail
    obtain ⟨bx, hbx⟩ : ∃ bx, w.heap.size = bx := ⟨_, rfl⟩
    rw [hbx] at P0 ⊢
    clear hbx
    generalize (w.alloc (.cells #[.slice ao C.J.D.now.length c, .int .i64 C.ver, .slice aot C.T.length ct] 40)).alloc (.cells #[.slice none 0 0, .int .i64 0, .slice none 0 0] 40) = w2 at *
    obtain ⟨rx, hrx⟩ : ∃ rx, bx + 1 = rx := ⟨_, rfl⟩
    rw [hrx] at P0 ⊢
    have HNX : Hid (bx ≠ rx) := by show bx ≠ rx; omega
    clear hrx hneg
    have x0 := P0.out.c0
    have x1 := P0.out.c1
    have x2 := P0.out.c2
    have hfit := G.out.tg.fi
    have hes := encP_size C.ver C.T hfit
    have hes2 : (encP C.ver C.T).size ≤ 140737488351232 := by omega
    have HVI : Hid (InInt C.ver) := by have := G.out.v0; have := G.out.v1; show InInt _; unfold InInt; omega
    have K2 := Lib.hid (K.out.fr (Fr.of_below P0.out.bel Nowhere) (fun _ _ h => h))
    have T2 := Lib.hid (TT.out.fr (Fr.of_below P0.out.bel Nowhere) (fun _ _ h => h))
    have HFIT := Lib.hid hfit
    clear hfit hes
    refine region_seq (fun w' => w'.cell? ⟨bx, 0, none⟩ = some (.slice ao C.J.D.now.length c) ∧ w'.cell? ⟨bx, 1, none⟩ = some (.int .i64 C.ver) ∧ w'.cell? ⟨bx, 2, none⟩ = some (.slice aot C.T.length ct)) []
      [(.p, 0), (.q, 1), (.p, 2), (.q, 3), (.p, 4), (.q, 5), (.l, 6), (.l, 7), (.l, 8), (.p, 9), (.p, 10), (.p, 11), (.p, 12), (.p, 13)] (by kernel_rfl) (by kernel_rfl) (by kernel_rfl) (by kernel_rfl) (fun d v c a w h => by cases d <;> exact h) ?_
    have hS : w2.drew.cell? ⟨bx, 0, none⟩ = some (.slice ao C.J.D.now.length c) ∧ w2.drew.cell? ⟨bx, 1, none⟩ = some (.int .i64 C.ver) ∧ w2.drew.cell? ⟨bx, 2, none⟩ = some (.slice aot C.T.length ct) := ⟨x0, x1, x2⟩
    (refine seq_p (N := some 11) rfl rfl (by rfl) ?_ (fun w' => ?_) ?_
     rotate_left
     · go_simp
       with_reducible rfl
     simp only [Act.put, List.setIfInBounds_toArray, List.set_cons_zero, List.set_cons_succ])
    (refine seq_q (N := some 12) rfl rfl (by rfl) ?_ ?_ hS ?_
     rotate_left
     · rintro w' ⟨s1, s2, s3⟩
       go_simp
       with_reducible rfl
     simp only [Act.put, List.setIfInBounds_toArray, List.set_cons_zero, List.set_cons_succ])
    (refine seq_p (N := some 13) rfl rfl (by rfl) ?_ (fun w' => ?_) ?_
     rotate_left
     · go_simp
       with_reducible rfl
     simp only [Act.put, List.setIfInBounds_toArray, List.set_cons_zero, List.set_cons_succ])
    (refine seq_q (N := some 14) rfl rfl (by rfl) ?_ ?_ hS ?_
     rotate_left
     · rintro w' ⟨s1, s2, s3⟩
       go_simp
       with_reducible rfl
     simp only [Act.put, List.setIfInBounds_toArray, List.set_cons_zero, List.set_cons_succ])
    (refine seq_p (N := some 15) rfl rfl (by rfl) ?_ (fun w' => ?_) ?_
     rotate_left
     · go_simp
       with_reducible rfl
     simp only [Act.put, List.setIfInBounds_toArray, List.set_cons_zero, List.set_cons_succ])
    (refine seq_q (N := some 16) rfl rfl (by rfl) ?_ ?_ hS ?_
     rotate_left
     · rintro w' ⟨s1, s2, s3⟩
       go_simp
       with_reducible rfl
     simp only [Act.put, List.setIfInBounds_toArray, List.set_cons_zero, List.set_cons_succ])
    have bd := (Below.refl w2.heap.size w2).drew
    refine seq_l rfl (by rfl) (wp_cl (N := some 17) (f := 30) (vs := #[.int .i64 C.ver, .slice aot C.T.length ct]) rfl rfl (by simp [Act.eval]) (callF Tryz.func30 rfl (by decide) _ _) ?_)
    refine (Record_any C.ver (.slice aot C.T.length ct) C.T w2.drew (T2.out.fr (Fr.of_below bd Nowhere) (fun _ _ h => h)) HVI.out hT HFIT.out).mono ?_
    rintro e w3 ⟨rfl, b3⟩
    have b3' : Below w2.heap.size w2 w3 := bd.trans (b3.mono bd.size)
    have P3 := Lib.hid (P0.out.below b3')
    have K3 := Lib.hid (K2.out.below b3')
    refine ⟨_, rfl, ?_⟩
    simp only [Act.put, List.setIfInBounds_toArray, List.set_cons_zero, List.set_cons_succ]
    refine ⟨fun _ => ⟨P3.out.c0, P3.out.c1, P3.out.c2⟩, ?_⟩
    clear b3 b3' bd hS x0 x1 x2 K2 T2 P0
    generalize hes : encP C.ver C.T = es at *
    have HES := Lib.hid hes
    clear hes
    refine seq_l rfl (by rfl) (wp_bs (N := some 18) (ps := #[(0, .string es)]) rfl rfl (by simp [Act.eval]) (run_bs_str _ _) ?_)
    simp only [Act.put, List.setIfInBounds_toArray, List.set_cons_zero, List.set_cons_succ]
    have b4 := (Below.refl w3.heap.size w3).alloc (Nat.le_refl _) (.cells #[.string es] 9)
    have P4 := Lib.hid (P3.out.below b4)
    have K4 := Lib.hid (K3.out.below b4)
    have g4 : (w3.alloc (.cells #[.string es] 9)).cell? ⟨w3.heap.size, 0, none⟩ = some (.string es) := cell_of_row _ _ 0 _ _ _ (heap_alloc_new w3 _)
    have G4 := Lib.hid g4
    refine ⟨fun _ => ⟨P4.out.c0, P4.out.c1, P4.out.c2⟩, ?_⟩
    clear b4 P3 K3 g4
    generalize w3.alloc (.cells #[.string es] 9) = w4 at *
    by_cases hf : hlf C.J.D < 1 + cnt es.size
    · have HPC : Hid (compactC C = (C, 20)) := compactC_full (by have := HNEG.out; omega) (by rw [HES.out]; exact hf)
      refine seq_l rfl (by rfl) (wp_cl (N := some 19) (f := 58) (vs := #[.slice ao C.J.D.now.length c, .slice (some ⟨w3.heap.size, 0, none⟩) 1 1]) rfl rfl (by simp [Act.eval]) (callF Tryz.func58 rfl (by decide) _ _) ?_)
      refine (RReset_full _ w3.heap.size 1 es w4 K4.out RD.out G4.out hes2 hf).mono ?_
      rintro e w5 ⟨rfl, b5⟩
      have P5 := Lib.hid (P4.out.below b5)
      refine ⟨_, rfl, ?_⟩
      simp only [Act.put, List.setIfInBounds_toArray, List.set_cons_zero, List.set_cons_succ]
      refine ⟨fun _ => ⟨P5.out.c0, P5.out.c1, P5.out.c2⟩, ?_⟩
      clear b5 P4 hf
      (refine seq_p (N := some 10) rfl rfl (by rfl) ?_ (fun w' => ?_) ?_
       rotate_left
       · go_simp
         with_reducible rfl
       simp only [Act.put, List.setIfInBounds_toArray, List.set_cons_zero, List.set_cons_succ])
      (refine seq_p (N := some 20) rfl rfl (by rfl) ?_ (fun w' => ?_) ?_
       rotate_left
       · go_simp
         with_reducible rfl
       simp only [Act.put, List.setIfInBounds_toArray, List.set_cons_zero, List.set_cons_succ])
      (refine seq_p (N := some 21) rfl rfl (by rfl) ?_ (fun w' => ?_) ?_
       rotate_left
       · go_simp
         with_reducible rfl
       simp only [Act.put, List.setIfInBounds_toArray, List.set_cons_zero, List.set_cons_succ])
      (refine seq_p (N := some 4) rfl rfl (by rfl) ?_ (fun w' => ?_) ?_
       rotate_left
       · go_simp
         with_reducible rfl
       simp only [Act.put, List.setIfInBounds_toArray, List.set_cons_zero, List.set_cons_succ])
      (refine seq_p (N := some 5) rfl rfl (by rfl) ?_ (fun w' => ?_) ?_
       rotate_left
       · go_simp
         with_reducible rfl
       simp only [Act.put, List.setIfInBounds_toArray, List.set_cons_zero, List.set_cons_succ])
      refine seq_nil ?_
      have x0 := P5.out.c0
      have x1 := P5.out.c1
      have x2 := P5.out.c2
      have r0 := P5.out.r0
      have r1 := P5.out.r1
      have r2 := P5.out.r2
      have z0 := P5.out.fz 0
      have z1 := P5.out.fz 1
      have z2 := P5.out.fz 2
      go_wp2_with fail
      have hb3 := set3 P5.out.bel P5.out.b2 (.slice ao C.J.D.now.length c) (.int .i64 C.ver) (.slice aot C.T.length ct)
      refine ret_ct rfl rx rfl ao C.J.D.now.length c C.ver aot C.T.length ct (heap3 P5.out.hr _ _ _) rfl ?_
      rw [HPC.out]
      exact ⟨_, _, rfl, K.out.fr (Fr.of_below hb3 Nowhere) (fun _ _ h => h), TT.out.fr (Fr.of_below hb3 Nowhere) (fun _ _ h => h), .inl rfl, .inl ⟨rfl, rfl⟩, hb3⟩
    · obtain ⟨J', hJ1, hJ2⟩ := compactC_done (C := C) (by have := HNEG.out; omega) (by rw [HES.out]; exact hf) LIM.out
      rw [HES.out] at hJ2
      have HPC := Lib.hid hJ1
      have HJ := Lib.hid hJ2
      clear hJ1 hJ2
      refine seq_l rfl (by rfl) (wp_cl (N := some 19) (f := 58) (vs := #[.slice ao C.J.D.now.length c, .slice (some ⟨w3.heap.size, 0, none⟩) 1 1]) rfl rfl (by simp [Act.eval]) (callF Tryz.func58 rfl (by decide) _ _) ?_)
      refine (RReset_any _ w3.heap.size 1 es w4 K4.out RD.out G4.out hes2 hf).mono ?_
      rintro e w5 ⟨v5, rfl, k5, f5, b5⟩
      rw [← HJ.out] at k5
      have P5 := Lib.hid (P4.out.below b5)
      have K5 := Lib.hid k5
      have hrx4 : rx < w4.heap.size := lt_of_heap P4.out.hr
      have hbx4 : bx < w4.heap.size := lt_of_heap P4.out.hx
      have NE5 : Hid (∀ k, v5.ownBlock = some k → ¬ (k = bx ∨ k = rx)) := fun k hk e => by have := (f5 k hk).1; omega
      have F5 : Hid (Fresh w v5 w5) := fun k hk => ⟨Nat.le_trans P4.out.bel.size (f5 k hk).1, (f5 k hk).2⟩
      obtain ⟨ao5, c5, rfl⟩ := k5.sl
      refine ⟨_, rfl, ?_⟩
      simp only [Act.put, List.setIfInBounds_toArray, List.set_cons_zero, List.set_cons_succ]
      refine ⟨fun _ => ⟨P5.out.c0, P5.out.c1, P5.out.c2⟩, ?_⟩
      clear b5 k5 f5 P4 hf hrx4 hbx4
      (refine seq_p (N := some 10) rfl rfl (by rfl) ?_ (fun w' => ?_) ?_
       rotate_left
       · go_simp
         with_reducible rfl
       simp only [Act.put, List.setIfInBounds_toArray, List.set_cons_zero, List.set_cons_succ])
      (refine seq_p (N := some 20) rfl rfl (by rfl) ?_ (fun w' => ?_) ?_
       rotate_left
       · go_simp
         with_reducible rfl
       simp only [Act.put, List.setIfInBounds_toArray, List.set_cons_zero, List.set_cons_succ])
      (refine seq_p (N := some 21) rfl rfl (by rfl) ?_ (fun w' => ?_) ?_
       rotate_left
       · go_simp
         with_reducible rfl
       simp only [Act.put, List.setIfInBounds_toArray, List.set_cons_zero, List.set_cons_succ])
      (refine seq_p (N := some 4) rfl rfl (by rfl) ?_ (fun w' => ?_) ?_
       rotate_left
       · go_simp
         with_reducible rfl
       simp only [Act.put, List.setIfInBounds_toArray, List.set_cons_zero, List.set_cons_succ])
      (refine seq_p (N := some 5) rfl rfl (by rfl) ?_ (fun w' => ?_) ?_
       rotate_left
       · go_simp
         with_reducible rfl
       simp only [Act.put, List.setIfInBounds_toArray, List.set_cons_zero, List.set_cons_succ])
      refine seq_nil ?_
      have x0 := P5.out.c0
      have x1 := P5.out.c1
      have x2 := P5.out.c2
      have y0 := P5.out.fx 0
      have r0 := P5.out.r0
      have r1 := P5.out.r1
      have r2 := P5.out.r2
      have z0 := P5.out.fz 0
      have z1 := P5.out.fz 1
      have z2 := P5.out.fz 2
      have hnx := HNX.out
      go_wp2_with fail
      have hb0 := P5.out.bel.setCell (p := ⟨bx, 0, none⟩) P5.out.b1 (.slice ao5 J'.D.now.length c5)
      have hb3 := set3 hb0 P5.out.b2 (.slice ao5 J'.D.now.length c5) (.int .i64 C.ver) (.slice aot C.T.length ct)
      have f0 : Fr w5 (w5.setCell ⟨bx, 0, none⟩ (.slice ao5 J'.D.now.length c5)) (fun k => k = bx) := (Fr.refl w5 (fun k => k = bx)).setCell ⟨bx, 0, none⟩ _ (fun _ => rfl)
      have hr := f0.heap P5.out.hr (fun e => hnx e.symm)
      have hfr : Fr w5 ((((w5.setCell ⟨bx, 0, none⟩ (.slice ao5 J'.D.now.length c5)).setCell ⟨rx, 0, none⟩ (.slice ao5 J'.D.now.length c5)).setCell ⟨rx, 1, none⟩ (.int .i64 C.ver)).setCell ⟨rx, 2, none⟩ (.slice aot C.T.length ct)) (fun k => k = bx ∨ k = rx) :=
        ((((Fr.refl w5 (fun k => k = bx ∨ k = rx)).setCell ⟨bx, 0, none⟩ _ (fun _ => .inl rfl)).setCell ⟨rx, 0, none⟩ _ (fun _ => .inr rfl)).setCell ⟨rx, 1, none⟩ _ (fun _ => .inr rfl)).setCell ⟨rx, 2, none⟩ _ (fun _ => .inr rfl)
      have hsz : ((((w5.setCell ⟨bx, 0, none⟩ (.slice ao5 J'.D.now.length c5)).setCell ⟨rx, 0, none⟩ (.slice ao5 J'.D.now.length c5)).setCell ⟨rx, 1, none⟩ (.int .i64 C.ver)).setCell ⟨rx, 2, none⟩ (.slice aot C.T.length ct)).heap.size = w5.heap.size := by simp
      refine ret_ct rfl rx rfl ao5 J'.D.now.length c5 C.ver aot C.T.length ct (heap3 hr _ _ _) rfl ?_
      rw [HPC.out]
      exact ⟨_, _, rfl, K5.out.fr hfr NE5.out, TT.out.fr (Fr.of_below hb3 Nowhere) (fun _ _ h => h), .inr fun k hk => by rw [hsz]; exact F5.out k hk, .inl ⟨rfl, rfl⟩, hb3⟩
end Go.Proofs.YtjflcpkmoamijaaGreatDoor
