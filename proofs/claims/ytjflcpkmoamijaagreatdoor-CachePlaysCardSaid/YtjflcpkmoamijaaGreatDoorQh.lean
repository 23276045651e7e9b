import Derived.Test.YtjflcpkmoamijaaGreatDoorQg
namespace Go.Proofs.YtjflcpkmoamijaaGreatDoor
open Go.RowKit
set_option linter.unusedVariables false
set_option linter.unusedSimpArgs false
set_option linter.unnecessarySimpa false

/-! ### The reference's Put and Compact -/
theorem CGood.rd {C : Cn} (h : CGood C) (h64 : ∀ b ∈ C.J.D.now, b.length = 64) : Rd C.J.D C.J.ep C.J.u C.J.l := ⟨h.jp, h.h5, h.ht, h64⟩
def CPPost (vb vt : Value) (x : Cn × Int) (T : List Bl) (w : World) (e : Ending) (w' : World) : Prop :=
  ∃ vb' vt', e = .returned (.tuple #[.agg #[vb', .int .i64 x.1.ver, vt'], .int .i64 x.2]) ∧ BksAt w' vb' x.1.J.D ∧ BlobsAt w' vt' x.1.T ∧ (vb' = vb ∨ Fresh w vb' w') ∧ ((vt' = vt ∧ x.1.T = T) ∨ Fresh w vt' w') ∧ Below w.heap.size w w'
theorem putC_bad {C : Cn} {ver : Int} {l : List Bl} (h : ver ≤ C.ver ∨ 2147483647 < ver) : putC C ver l = (C, 21) := by unfold putC; rw [if_pos h]
theorem putC_ord {C : Cn} {ver : Int} {l : List Bl} (h : ¬ (ver ≤ C.ver ∨ 2147483647 < ver)) (ho : ordB l = false) : putC C ver l = (C, 6) := by unfold putC; rw [if_neg h, if_pos ho]
theorem putC_full {C : Cn} {ver : Int} {l : List Bl} (h : ¬ (ver ≤ C.ver ∨ 2147483647 < ver)) (ho : ordB l = true) (hf : hlf C.J.D < C.J.u + 1 + cnt (encP ver l).size) : putC C ver l = (C, 20) := by
  unfold putC
  rw [if_neg h, if_neg (by rw [ho]; simp)]
  have e : appendP C.J (encP ver l) = (C.J, false) := by unfold appendP; exact if_pos hf
  rw [e]
  rfl
theorem putC_done {C : Cn} {ver : Int} {l : List Bl} (h : ¬ (ver ≤ C.ver ∨ 2147483647 < ver)) (ho : ordB l = true) (hf : ¬ hlf C.J.D < C.J.u + 1 + cnt (encP ver l).size) (hlim : C.J.D.lim = false) :
    ∃ J, putC C ver l = (⟨J, ver, applyT C.T l⟩, 0) ∧ J.D = wN C.J.D (appW C.J.D C.J.ep C.J.u (encP ver l)) := by
  have hw := wrs_free C.J.D hlim (appW C.J.D C.J.ep C.J.u (encP ver l))
  refine ⟨{ C.J with D := wN C.J.D (appW C.J.D C.J.ep C.J.u (encP ver l)), u := C.J.u + 1 + cnt (encP ver l).size, l := C.J.l ++ [encP ver l] }, ?_, rfl⟩
  unfold putC
  rw [if_neg h, if_neg (by rw [ho]; simp)]
  have e : appendP C.J (encP ver l) = ({ C.J with D := wN C.J.D (appW C.J.D C.J.ep C.J.u (encP ver l)), u := C.J.u + 1 + cnt (encP ver l).size, l := C.J.l ++ [encP ver l] }, true) := by
    unfold appendP; rw [if_neg hf, hw]; rfl
  rw [e]
  rfl
set_option maxHeartbeats 2000000 in
set_option maxRecDepth 100000 in
theorem RCPut_any (vb vt vd : Value) (C : Cn) (ver : Int) (l : List Bl) (w : World) (hk : BksAt w vb C.J.D) (ht : BlobsAt w vt C.T) (hd : BlobsAt w vd l) (hg : CGood C) (h64 : ∀ b ∈ C.J.D.now, b.length = 64) (hlim : C.J.D.lim = false)
    (hv : InInt ver) (hl : l.length ≤ 1000) (hsz : ∀ b ∈ l, b.s.size ≤ 4294967296) (hT : C.T.length ≤ 1000000) :
    Calls Tryz.prog 23 #[.agg #[vb, .int .i64 C.ver, vt], .int .i64 ver, vd] w (CPPost vb vt (putC C ver l) C.T w) := by
  have K := Lib.hid hk
  have TT := Lib.hid ht
  have DD := Lib.hid hd
  have G := Lib.hid hg
  have RD := Lib.hid (hg.rd h64)
  have LIM := Lib.hid hlim
  have HV := Lib.hid hv
  have SZ := Lib.hid hsz
  obtain ⟨ao, c, rfl⟩ := hk.sl
  obtain ⟨aot, ct, rfl, _⟩ := ht.sl
  obtain ⟨aod, cd, rfl, _⟩ := hd.sl
  have HOR := Lib.hid (fun w h => ROrdered_any (.slice aod l.length cd) l w h (by omega))
  clear hk ht hd hg h64 hlim hv hsz
  by_cases hbad : ver ≤ C.ver ∨ 2147483647 < ver
  · have HPC := Lib.hid (putC_bad (l := l) hbad)
    have hb2 := two_boxes w _ #[.slice ao C.J.D.now.length c, .int .i64 C.ver, .slice aot C.T.length ct] #[.slice ao C.J.D.now.length c, .int .i64 C.ver, .slice aot C.T.length ct] 40 (Below.refl _ _)
    have HB2 := Lib.hid hb2
    clear hb2
    rcases hbad with h1 | h1
    · go_enter Tryz.func23, Tryz.ntmps23
      go_wp2_with fail
      refine ret_ct rfl (w.heap.size + 1) rfl ao C.J.D.now.length c C.ver aot C.T.length ct HB2.out.2.1 rfl ?_
      rw [HPC.out]
      exact ⟨_, _, rfl, K.out.fr (Fr.of_below HB2.out.2.2 Nowhere) (fun _ _ h => h), TT.out.fr (Fr.of_below HB2.out.2.2 Nowhere) (fun _ _ h => h), .inl rfl, .inl ⟨rfl, rfl⟩, HB2.out.2.2⟩
    · by_cases h0 : ver ≤ C.ver
      · go_enter Tryz.func23, Tryz.ntmps23
        go_wp2_with fail
        refine ret_ct rfl (w.heap.size + 1) rfl ao C.J.D.now.length c C.ver aot C.T.length ct HB2.out.2.1 rfl ?_
        rw [HPC.out]
        exact ⟨_, _, rfl, K.out.fr (Fr.of_below HB2.out.2.2 Nowhere) (fun _ _ h => h), TT.out.fr (Fr.of_below HB2.out.2.2 Nowhere) (fun _ _ h => h), .inl rfl, .inl ⟨rfl, rfl⟩, HB2.out.2.2⟩
      · go_enter Tryz.func23, Tryz.ntmps23
        go_wp2_with fail
        refine ret_ct rfl (w.heap.size + 1) rfl ao C.J.D.now.length c C.ver aot C.T.length ct HB2.out.2.1 rfl ?_
        rw [HPC.out]
        exact ⟨_, _, rfl, K.out.fr (Fr.of_below HB2.out.2.2 Nowhere) (fun _ _ h => h), TT.out.fr (Fr.of_below HB2.out.2.2 Nowhere) (fun _ _ h => h), .inl rfl, .inl ⟨rfl, rfl⟩, HB2.out.2.2⟩
  · have h0 : ¬ ver ≤ C.ver := fun h => hbad (.inl h)
    have h1 : ¬ 2147483647 < ver := fun h => hbad (.inr h)
    have HBAD := Lib.hid hbad
    have P0 := Lib.hid (PB.two w (.slice ao C.J.D.now.length c) (.int .i64 C.ver) (.slice aot C.T.length ct))
    clear hbad
    go_enter Tryz.func23, Tryz.ntmps23
    go_wp2_with fail
    obtain ⟨bx, hbx⟩ : ∃ bx, w.heap.size = bx := ⟨_, rfl⟩
    rw [hbx] at P0 ⊢
    clear hbx
    generalize (w.alloc (.cells #[.slice ao C.J.D.now.length c, .int .i64 C.ver, .slice aot C.T.length ct] 40)).alloc (.cells #[.slice none 0 0, .int .i64 0, .slice none 0 0] 40) = w1 at *
    obtain ⟨rx, hrx⟩ : ∃ rx, bx + 1 = rx := ⟨_, rfl⟩
    rw [hrx] at P0 ⊢
    clear hrx h0 h1
    have D1 := Lib.hid (DD.out.fr (Fr.of_below P0.out.bel Nowhere) (fun _ _ h => h))
    refine (HOR.out w1 D1.out).mono ?_
    rintro e w2 ⟨rfl, b2⟩
    have P2 := Lib.hid (P0.out.below b2)
    clear b2 D1 P0 HOR
    have x0 := P2.out.c0
    have x1 := P2.out.c1
    have x2 := P2.out.c2
    have r0 := P2.out.r0
    have r1 := P2.out.r1
    have r2 := P2.out.r2
    have z0 := P2.out.fz 0
    have z1 := P2.out.fz 1
    have z2 := P2.out.fz 2
    rcases hob : ordB l with _ | _
    · have HPC := Lib.hid (putC_ord HBAD.out hob)
      clear hob
      go_wp2_with fail
      have hb3 := set3 P2.out.bel P2.out.b2 (.slice ao C.J.D.now.length c) (.int .i64 C.ver) (.slice aot C.T.length ct)
      refine ret_ct rfl rx rfl ao C.J.D.now.length c C.ver aot C.T.length ct (heap3 P2.out.hr _ _ _) rfl ?_
      rw [HPC.out]
      exact ⟨_, _, rfl, K.out.fr (Fr.of_below hb3 Nowhere) (fun _ _ h => h), TT.out.fr (Fr.of_below hb3 Nowhere) (fun _ _ h => h), .inl rfl, .inl ⟨rfl, rfl⟩, hb3⟩
    · have hfit := fits_of hob SZ.out
      have HFIT := Lib.hid hfit
      have HOB := Lib.hid hob
      have hes := encP_size ver l hfit
      have hes2 : (encP ver l).size ≤ 140737488351232 := by omega
      have D2 := Lib.hid (DD.out.fr (Fr.of_below P2.out.bel Nowhere) (fun _ _ h => h))
      have K2 := Lib.hid (K.out.fr (Fr.of_below P2.out.bel Nowhere) (fun _ _ h => h))
      have T2 := Lib.hid (TT.out.fr (Fr.of_below P2.out.bel Nowhere) (fun _ _ h => h))
      clear hob hfit hes x1 x2 r0 r1 r2 z0 z1 z2
      go_wp2_with fail
      refine region_seq (fun w' => w'.cell? ⟨bx, 0, none⟩ = some (.slice ao C.J.D.now.length c)) []
        [(.p, 0), (.q, 1), (.p, 2), (.p, 3), (.l, 4), (.l, 5), (.p, 6), (.p, 7), (.p, 8), (.p, 9), (.p, 10)] (by kernel_rfl) (by kernel_rfl) (by kernel_rfl) (by kernel_rfl) (fun d v c a w h => by cases d <;> exact h) ?_
      have hS : w2.drew.cell? ⟨bx, 0, none⟩ = some (.slice ao C.J.D.now.length c) := x0
      (refine seq_p (N := some 24) rfl rfl (by rfl) ?_ (fun w' => ?_) ?_
       rotate_left
       · go_simp
         with_reducible rfl
       simp only [Act.put, List.setIfInBounds_toArray, List.set_cons_zero, List.set_cons_succ])
      (refine seq_q (N := some 25) rfl rfl (by rfl) ?_ ?_ hS ?_
       rotate_left
       · rintro w' s1
         go_simp
         with_reducible rfl
       simp only [Act.put, List.setIfInBounds_toArray, List.set_cons_zero, List.set_cons_succ])
      (refine seq_p (N := some 26) rfl rfl (by rfl) ?_ (fun w' => ?_) ?_
       rotate_left
       · go_simp
         with_reducible rfl
       simp only [Act.put, List.setIfInBounds_toArray, List.set_cons_zero, List.set_cons_succ])
      (refine seq_p (N := some 27) rfl rfl (by rfl) ?_ (fun w' => ?_) ?_
       rotate_left
       · go_simp
         with_reducible rfl
       simp only [Act.put, List.setIfInBounds_toArray, List.set_cons_zero, List.set_cons_succ])
      have bd := (Below.refl w2.heap.size w2).drew
      refine seq_l rfl (by rfl) (wp_cl (N := some 28) (f := 30) (vs := #[.int .i64 ver, .slice aod l.length cd]) rfl rfl (by simp [Act.eval]) (callF Tryz.func30 rfl (by decide) _ _) ?_)
      refine (Record_any ver (.slice aod l.length cd) l w2.drew (D2.out.fr (Fr.of_below bd Nowhere) (fun _ _ h => h)) HV.out hl HFIT.out).mono ?_
      rintro e w3 ⟨rfl, b3⟩
      have b3' : Below w2.heap.size w2 w3 := bd.trans (b3.mono bd.size)
      have P3 := Lib.hid (P2.out.below b3')
      have D3 := Lib.hid (D2.out.fr (Fr.of_below b3' Nowhere) (fun _ _ h => h))
      have K3 := Lib.hid (K2.out.below b3')
      have T3 := Lib.hid (T2.out.fr (Fr.of_below b3' Nowhere) (fun _ _ h => h))
      refine ⟨_, rfl, ?_⟩
      simp only [Act.put, List.setIfInBounds_toArray, List.set_cons_zero, List.set_cons_succ]
      refine ⟨fun _ => P3.out.c0, ?_⟩
      clear b3 b3' bd hS x0 D2 K2 T2 P2
      generalize hes : encP ver l = es at *
      have HES := Lib.hid hes
      clear hes
      by_cases hf : hlf C.J.D < C.J.u + 1 + cnt es.size
      · have HPC : Hid (putC C ver l = (C, 20)) := putC_full HBAD.out HOB.out (by rw [HES.out]; exact hf)
        refine seq_l rfl (by rfl) (wp_cl (N := some 29) (f := 56) (vs := #[.slice ao C.J.D.now.length c, .string es]) rfl rfl (by simp [Act.eval]) (callF Tryz.func56 rfl (by decide) _ _) ?_)
        refine (RAppend_full _ es w3 K3.out RD.out hes2 hf).mono ?_
        rintro e w4 ⟨rfl, b4⟩
        have P4 := Lib.hid (P3.out.below b4)
        refine ⟨_, rfl, ?_⟩
        simp only [Act.put, List.setIfInBounds_toArray, List.set_cons_zero, List.set_cons_succ]
        refine ⟨fun _ => P4.out.c0, ?_⟩
        clear b4 P3
        (refine seq_p (N := some 23) rfl rfl (by rfl) ?_ (fun w' => ?_) ?_
         rotate_left
         · go_simp
           with_reducible rfl
         simp only [Act.put, List.setIfInBounds_toArray, List.set_cons_zero, List.set_cons_succ])
        (refine seq_p (N := some 30) rfl rfl (by rfl) ?_ (fun w' => ?_) ?_
         rotate_left
         · go_simp
           with_reducible rfl
         simp only [Act.put, List.setIfInBounds_toArray, List.set_cons_zero, List.set_cons_succ])
        (refine seq_p (N := some 31) rfl rfl (by rfl) ?_ (fun w' => ?_) ?_
         rotate_left
         · go_simp
           with_reducible rfl
         simp only [Act.put, List.setIfInBounds_toArray, List.set_cons_zero, List.set_cons_succ])
        (refine seq_p (N := some 8) rfl rfl (by rfl) ?_ (fun w' => ?_) ?_
         rotate_left
         · go_simp
           with_reducible rfl
         simp only [Act.put, List.setIfInBounds_toArray, List.set_cons_zero, List.set_cons_succ])
        (refine seq_p (N := some 9) rfl rfl (by rfl) ?_ (fun w' => ?_) ?_
         rotate_left
         · go_simp
           with_reducible rfl
         simp only [Act.put, List.setIfInBounds_toArray, List.set_cons_zero, List.set_cons_succ])
        refine seq_nil ?_
        have x0 := P4.out.c0
        have x1 := P4.out.c1
        have x2 := P4.out.c2
        have r0 := P4.out.r0
        have r1 := P4.out.r1
        have r2 := P4.out.r2
        have z0 := P4.out.fz 0
        have z1 := P4.out.fz 1
        have z2 := P4.out.fz 2
        go_wp2_with fail
        have hb3 := set3 P4.out.bel P4.out.b2 (.slice ao C.J.D.now.length c) (.int .i64 C.ver) (.slice aot C.T.length ct)
        refine ret_ct rfl rx rfl ao C.J.D.now.length c C.ver aot C.T.length ct (heap3 P4.out.hr _ _ _) rfl ?_
        rw [HPC.out]
        exact ⟨_, _, rfl, K.out.fr (Fr.of_below hb3 Nowhere) (fun _ _ h => h), TT.out.fr (Fr.of_below hb3 Nowhere) (fun _ _ h => h), .inl rfl, .inl ⟨rfl, rfl⟩, hb3⟩
      · obtain ⟨J', hJ1, hJ2⟩ := putC_done (C := C) HBAD.out HOB.out (by rw [HES.out]; exact hf) LIM.out
        rw [HES.out] at hJ2
        have HPC := Lib.hid hJ1
        have HJ := Lib.hid hJ2
        clear hJ1 hJ2
        refine seq_l rfl (by rfl) (wp_cl (N := some 29) (f := 56) (vs := #[.slice ao C.J.D.now.length c, .string es]) rfl rfl (by simp [Act.eval]) (callF Tryz.func56 rfl (by decide) _ _) ?_)
        refine (RAppend_any _ es w3 K3.out RD.out hes2 hf).mono ?_
        rintro e w4 ⟨v4, rfl, k4, f4, b4⟩
        rw [← HJ.out] at k4
        have P4 := Lib.hid (P3.out.below b4)
        have K4 := Lib.hid k4
        have hrx3 : rx < w3.heap.size := lt_of_heap P3.out.hr
        have NE4 : Hid (∀ k, v4.ownBlock = some k → ¬ k = rx) := fun k hk e => by have := (f4 k hk).1; omega
        have hrx4 : rx < w4.heap.size := lt_of_heap P4.out.hr
        have F4 : Hid (Fresh w v4 w4) := fun k hk => ⟨Nat.le_trans P3.out.bel.size (f4 k hk).1, (f4 k hk).2⟩
        have D4 := Lib.hid (D3.out.fr (Fr.of_below b4 Nowhere) (fun _ _ h => h))
        have T4 := Lib.hid (T3.out.fr (Fr.of_below b4 Nowhere) (fun _ _ h => h))
        obtain ⟨ao4, c4, rfl⟩ := k4.sl
        refine ⟨_, rfl, ?_⟩
        simp only [Act.put, List.setIfInBounds_toArray, List.set_cons_zero, List.set_cons_succ]
        refine ⟨fun _ => P4.out.c0, ?_⟩
        clear b4 k4 f4 P3 K3 D3 T3 hf
        (refine seq_p (N := some 23) rfl rfl (by rfl) ?_ (fun w' => ?_) ?_
         rotate_left
         · go_simp
           with_reducible rfl
         simp only [Act.put, List.setIfInBounds_toArray, List.set_cons_zero, List.set_cons_succ])
        (refine seq_p (N := some 30) rfl rfl (by rfl) ?_ (fun w' => ?_) ?_
         rotate_left
         · go_simp
           with_reducible rfl
         simp only [Act.put, List.setIfInBounds_toArray, List.set_cons_zero, List.set_cons_succ])
        (refine seq_p (N := some 31) rfl rfl (by rfl) ?_ (fun w' => ?_) ?_
         rotate_left
         · go_simp
           with_reducible rfl
         simp only [Act.put, List.setIfInBounds_toArray, List.set_cons_zero, List.set_cons_succ])
        (refine seq_p (N := some 8) rfl rfl (by rfl) ?_ (fun w' => ?_) ?_
         rotate_left
         · go_simp
           with_reducible rfl
         simp only [Act.put, List.setIfInBounds_toArray, List.set_cons_zero, List.set_cons_succ])
        (refine seq_p (N := some 9) rfl rfl (by rfl) ?_ (fun w' => ?_) ?_
         rotate_left
         · go_simp
           with_reducible rfl
         simp only [Act.put, List.setIfInBounds_toArray, List.set_cons_zero, List.set_cons_succ])
        refine seq_nil ?_
        have x2 := P4.out.c2
        go_wp2_with fail
        refine (RPatchO_any (.slice aot C.T.length ct) (.slice aod l.length cd) C.T l w4 T4.out G.out.tg D4.out HOB.out HFIT.out (by omega)).mono ?_
        rintro e w5 ⟨v5, rfl, t5, f5, b5⟩
        have P5 := Lib.hid (P4.out.below b5)
        have K5 := Lib.hid (K4.out.below b5)
        have F5 : Hid ((Value.slice ao4 J'.D.now.length c4) = .slice ao C.J.D.now.length c ∨ Fresh w (.slice ao4 J'.D.now.length c4) w5) := .inr fun k hk => ⟨(F4.out k hk).1, Nat.lt_of_lt_of_le (F4.out k hk).2 b5.size⟩
        have T5 := Lib.hid t5
        have TF5 : Hid ((v5 = .slice aot C.T.length ct ∧ applyT C.T l = C.T) ∨ Fresh w v5 w5) := by
          rcases f5 with ⟨h1, h2⟩ | h1
          · exact .inl ⟨h2, by rw [h1]; rfl⟩
          · exact .inr fun k hk => ⟨Nat.le_trans P4.out.bel.size (h1 k hk).1, (h1 k hk).2⟩
        have HT6 : Hid (∀ wz, Fr w5 wz (fun k => k = rx) → Below w.heap.size w wz → BlobsAt wz v5 (applyT C.T l)) := by
          intro wz hz hb
          rcases f5 with ⟨h1, h2⟩ | h1
          · subst h1
            subst h2
            exact TT.out.fr (Fr.of_below hb Nowhere) (fun _ _ h => h)
          · exact t5.fr hz (fun k hk e => by have := (h1 k hk).1; omega)
        obtain ⟨ao5, c5, rfl, _⟩ := t5.sl
        clear t5 f5 b5 P4 K4 F4 D4 T4 x2 hrx3 hrx4 T5
        have r0 := P5.out.r0
        have r1 := P5.out.r1
        have r2 := P5.out.r2
        have z0 := P5.out.fz 0
        have z1 := P5.out.fz 1
        have z2 := P5.out.fz 2
        go_wp2_with fail
        have hb3 := set3 P5.out.bel P5.out.b2 (.slice ao4 J'.D.now.length c4) (.int .i64 ver) (.slice ao5 (applyT C.T l).length c5)
        have hfr : Fr w5 (((w5.setCell ⟨rx, 0, none⟩ (.slice ao4 J'.D.now.length c4)).setCell ⟨rx, 1, none⟩ (.int .i64 ver)).setCell ⟨rx, 2, none⟩ (.slice ao5 (applyT C.T l).length c5)) (fun k => k = rx) :=
          (((Fr.refl w5 (fun k => k = rx)).setCell ⟨rx, 0, none⟩ _ (fun _ => rfl)).setCell ⟨rx, 1, none⟩ _ (fun _ => rfl)).setCell ⟨rx, 2, none⟩ _ (fun _ => rfl)
        have hsz : (((w5.setCell ⟨rx, 0, none⟩ (.slice ao4 J'.D.now.length c4)).setCell ⟨rx, 1, none⟩ (.int .i64 ver)).setCell ⟨rx, 2, none⟩ (.slice ao5 (applyT C.T l).length c5)).heap.size = w5.heap.size := by simp
        refine ret_ct rfl rx rfl ao4 J'.D.now.length c4 ver ao5 (applyT C.T l).length c5 (heap3 P5.out.hr _ _ _) rfl ?_
        rw [HPC.out]
        refine ⟨_, _, rfl, K5.out.fr hfr NE4.out, HT6.out _ hfr hb3, ?_, ?_, hb3⟩
        · rcases F5.out with h | h
          · exact .inl h
          · exact .inr fun k hk => by rw [hsz]; exact h k hk
        · rcases TF5.out with h | h
          · exact .inl h
          · exact .inr fun k hk => by rw [hsz]; exact h k hk
end Go.Proofs.YtjflcpkmoamijaaGreatDoor
