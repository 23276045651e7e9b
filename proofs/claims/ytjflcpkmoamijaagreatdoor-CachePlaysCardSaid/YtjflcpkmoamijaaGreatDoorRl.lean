import Derived.Test.YtjflcpkmoamijaaGreatDoorRk
namespace Go.Proofs.YtjflcpkmoamijaaGreatDoor
open Go.RowKit
set_option linter.unusedVariables false
set_option linter.unusedSimpArgs false
set_option linter.unnecessarySimpa false

theorem good_eq {l : List Bl} {i : Nat} (h : i < l.length) : goodAt l i = ((l[i]).t.ok && (decide (i = 0) || (tlAt l (i - 1)).less (l[i]).t)) := by unfold goodAt; rw [tlAt_get h]
set_option maxHeartbeats 2000000 in
set_option maxRecDepth 100000 in
theorem ROrdered_any (v : Value) (l : List Bl) (w : World) (h : BlobsAt w v l) (hl : l.length ≤ 1000000000) :
    Calls Tryz.prog 50 #[v] w fun e w' => e = .returned (.bool (ordB l)) ∧ Below w.heap.size w w' := by
  obtain ⟨ao, c, rfl, hne⟩ := h.sl
  have H := Lib.hid h
  have HNE := Lib.hid hne
  clear h hne
  go_enter Tryz.func50, Tryz.ntmps50
  go_wp2_with fail
  go_loopw [3] (fun v wr => ∃ i : Nat, v = .int .i64 i ∧ i ≤ l.length ∧ Hid (∀ j, j < i → goodAt l j = true) ∧ Hid (Below w.heap.size w wr)) (fun v _ => l.length - (intOf v).toNat)
  case atStart => exact ⟨0, rfl, by omega, fun j hj => by omega, Below.refl _ _⟩
  case round =>
    obtain ⟨i, rfl, hi, hg, hB⟩ := hrel
    by_cases hic : i < l.length
    · have hic' : (i : Int) < (l.length : Int) := by omega
      obtain ⟨b, o, rfl⟩ := HNE.out (by intro h; subst h; simp at hic)
      have Hr := Lib.hid (H.out.fr (Fr.of_below hB.out Nowhere) (fun _ _ h => h))
      have HGI := Lib.hid (good_eq hic)
      have Bd := Lib.hid (hB.out.trans ((Below.refl wr.heap.size wr).drew.mono hB.out.size))
      have HSS := Lib.hid (Hr.out.drewN 1)
      go_wp2_with fail
      clear Hr hB
      rcases hok : (l[i]).t.ok with _ | _
      · have HBAD := Lib.hid (ordB_false hic (by rw [HGI.out, hok]; rfl))
        refine region_seq (fun w' => BlobsAt w' (.slice (some ⟨b, o, none⟩) l.length c) l) []
          [(.p, 0), (.p, 1), (.p, 2), (.p, 3), (.q, 4), (.l, 5), (.p, 6), (.p, 7), (.p, 8), (.p, 9), (.p, 10), (.p, 11), (.p, 12), (.p, 13), (.p, 14), (.p, 15), (.p, 16), (.p, 17), (.p, 18), (.p, 19), (.p, 20), (.p, 21), (.p, 22), (.p, 23), (.p, 24), (.p, 25)] (by kernel_rfl) (by kernel_rfl) (by kernel_rfl) (by kernel_rfl) (fun d v c a w h => by cases d <;> exact h) ?_
        (refine seq_p (N := some 10) rfl rfl (by rfl) ?_ (fun w' => ?_) ?_
         rotate_left
         · go_simp
           with_reducible rfl
         simp only [Act.put, List.setIfInBounds_toArray, List.set_cons_zero, List.set_cons_succ])
        (refine seq_p (N := some 11) rfl rfl (by rfl) ?_ (fun w' => ?_) ?_
         rotate_left
         · go_simp
           with_reducible rfl
         simp only [Act.put, List.setIfInBounds_toArray, List.set_cons_zero, List.set_cons_succ])
        (refine seq_p (N := some 12) rfl rfl (by rfl) ?_ (fun w' => ?_) ?_
         rotate_left
         · go_simp
           with_reducible rfl
         simp only [Act.put, List.setIfInBounds_toArray, List.set_cons_zero, List.set_cons_succ])
        (refine seq_p (N := some 13) rfl rfl (by rfl) ?_ (fun w' => ?_) ?_
         rotate_left
         · go_simp
           with_reducible rfl
         simp only [Act.put, List.setIfInBounds_toArray, List.set_cons_zero, List.set_cons_succ])
        (refine seq_q (N := some 14) rfl rfl (by rfl) (l[i]).t.v ?_ HSS.out ?_
         · intro w' s1
           exact run_ld rfl rfl (load_tile (range_tile (s1.nth i hic)))
         simp only [Act.put, List.setIfInBounds_toArray, List.set_cons_zero, List.set_cons_succ])
        refine seq_l rfl (by rfl) (wp_cl (N := some 15) (f := 87) (vs := #[(l[i]).t.v]) rfl rfl (by simp [Act.eval]) (callF Tryz.func87 rfl (by decide) _ _) ?_)
        refine (RValid_any (l[i]).t _).mono ?_
        rintro e w5 ⟨rfl, b5⟩
        have B5 := Lib.hid (Bd.out.trans (by exact b5.mono Bd.out.size))
        have S5 : BlobsAt w5 (.slice (some ⟨b, o, none⟩) l.length c) l := HSS.out.fr (Fr.of_below b5 Nowhere) (fun _ _ h => h)
        rw [hok]
        refine ⟨_, rfl, ?_⟩
        simp only [Act.put, List.setIfInBounds_toArray, List.set_cons_zero, List.set_cons_succ]
        refine ⟨fun _ => S5, ?_⟩
        clear b5 S5
        (refine seq_p (N := some 16) rfl rfl (by rfl) ?_ (fun w' => ?_) ?_
         rotate_left
         · go_simp
           with_reducible rfl
         simp only [Act.put, List.setIfInBounds_toArray, List.set_cons_zero, List.set_cons_succ])
        (refine seq_p (N := some 17) rfl rfl (by rfl) ?_ (fun w' => ?_) ?_
         rotate_left
         · go_simp
           with_reducible rfl
         simp only [Act.put, List.setIfInBounds_toArray, List.set_cons_zero, List.set_cons_succ])
        (refine seq_off (N := some 18) rfl rfl (by rfl) ?_
         simp only [Act.put, List.setIfInBounds_toArray, List.set_cons_zero, List.set_cons_succ])
        (refine seq_off (N := some 19) rfl rfl (by rfl) ?_
         simp only [Act.put, List.setIfInBounds_toArray, List.set_cons_zero, List.set_cons_succ])
        (refine seq_off (N := some 20) rfl rfl (by rfl) ?_
         simp only [Act.put, List.setIfInBounds_toArray, List.set_cons_zero, List.set_cons_succ])
        (refine seq_off (N := some 21) rfl rfl (by rfl) ?_
         simp only [Act.put, List.setIfInBounds_toArray, List.set_cons_zero, List.set_cons_succ])
        (refine seq_off (N := some 22) rfl rfl (by rfl) ?_
         simp only [Act.put, List.setIfInBounds_toArray, List.set_cons_zero, List.set_cons_succ])
        (refine seq_off (N := some 23) rfl rfl (by rfl) ?_
         simp only [Act.put, List.setIfInBounds_toArray, List.set_cons_zero, List.set_cons_succ])
        (refine seq_off (N := some 24) rfl rfl (by rfl) ?_
         simp only [Act.put, List.setIfInBounds_toArray, List.set_cons_zero, List.set_cons_succ])
        (refine seq_off (N := some 25) rfl rfl (by rfl) ?_
         simp only [Act.put, List.setIfInBounds_toArray, List.set_cons_zero, List.set_cons_succ])
        (refine seq_off (N := some 26) rfl rfl (by rfl) ?_
         simp only [Act.put, List.setIfInBounds_toArray, List.set_cons_zero, List.set_cons_succ])
        (refine seq_off (N := some 27) rfl rfl (by rfl) ?_
         simp only [Act.put, List.setIfInBounds_toArray, List.set_cons_zero, List.set_cons_succ])
        (refine seq_off (N := some 28) rfl rfl (by rfl) ?_
         simp only [Act.put, List.setIfInBounds_toArray, List.set_cons_zero, List.set_cons_succ])
        (refine seq_off (N := some 29) rfl rfl (by rfl) ?_
         simp only [Act.put, List.setIfInBounds_toArray, List.set_cons_zero, List.set_cons_succ])
        (refine seq_off (N := some 30) rfl rfl (by rfl) ?_
         simp only [Act.put, List.setIfInBounds_toArray, List.set_cons_zero, List.set_cons_succ])
        (refine seq_off (N := some 31) rfl rfl (by rfl) ?_
         simp only [Act.put, List.setIfInBounds_toArray, List.set_cons_zero, List.set_cons_succ])
        (refine seq_off (N := some 32) rfl rfl (by rfl) ?_
         simp only [Act.put, List.setIfInBounds_toArray, List.set_cons_zero, List.set_cons_succ])
        (refine seq_off (N := some 33) rfl rfl (by rfl) ?_
         simp only [Act.put, List.setIfInBounds_toArray, List.set_cons_zero, List.set_cons_succ])
        (refine seq_off (N := some 34) rfl rfl (by rfl) ?_
         simp only [Act.put, List.setIfInBounds_toArray, List.set_cons_zero, List.set_cons_succ])
        (refine seq_p (N := some 35) rfl rfl (by rfl) ?_ (fun w' => ?_) ?_
         rotate_left
         · go_simp
           with_reducible rfl
         simp only [Act.put, List.setIfInBounds_toArray, List.set_cons_zero, List.set_cons_succ])
        refine seq_nil ?_
        go_wp2_with fail
        go_ret
        rw [HBAD.out]
        exact ⟨rfl, B5.out⟩
      · by_cases h0 : i = 0
        · subst h0
          have HG2 : Hid (∀ j, j < 0 + 1 → goodAt l j = true) := by
            intro j hj
            obtain rfl : j = 0 := by omega
            rw [HGI.out, hok]; rfl
          refine region_seq (fun w' => BlobsAt w' (.slice (some ⟨b, o, none⟩) l.length c) l) []
            [(.p, 0), (.p, 1), (.p, 2), (.p, 3), (.q, 4), (.l, 5), (.p, 6), (.p, 7), (.p, 8), (.p, 9), (.p, 10), (.p, 11), (.p, 12), (.p, 13), (.p, 14), (.p, 15), (.p, 16), (.p, 17), (.p, 18), (.p, 19), (.p, 20), (.p, 21), (.p, 22), (.p, 23), (.p, 24), (.p, 25)] (by kernel_rfl) (by kernel_rfl) (by kernel_rfl) (by kernel_rfl) (fun d v c a w h => by cases d <;> exact h) ?_
          (refine seq_p (N := some 10) rfl rfl (by rfl) ?_ (fun w' => ?_) ?_
           rotate_left
           · go_simp
             with_reducible rfl
           simp only [Act.put, List.setIfInBounds_toArray, List.set_cons_zero, List.set_cons_succ])
          (refine seq_p (N := some 11) rfl rfl (by rfl) ?_ (fun w' => ?_) ?_
           rotate_left
           · go_simp
             with_reducible rfl
           simp only [Act.put, List.setIfInBounds_toArray, List.set_cons_zero, List.set_cons_succ])
          (refine seq_p (N := some 12) rfl rfl (by rfl) ?_ (fun w' => ?_) ?_
           rotate_left
           · go_simp
             with_reducible rfl
           simp only [Act.put, List.setIfInBounds_toArray, List.set_cons_zero, List.set_cons_succ])
          (refine seq_p (N := some 13) rfl rfl (by rfl) ?_ (fun w' => ?_) ?_
           rotate_left
           · go_simp
             with_reducible rfl
           simp only [Act.put, List.setIfInBounds_toArray, List.set_cons_zero, List.set_cons_succ])
          (refine seq_q (N := some 14) rfl rfl (by rfl) (l[0]).t.v ?_ HSS.out ?_
           · intro w' s1
             exact run_ld rfl rfl (load_tile (range_tile (s1.nth 0 hic)))
           simp only [Act.put, List.setIfInBounds_toArray, List.set_cons_zero, List.set_cons_succ])
          refine seq_l rfl (by rfl) (wp_cl (N := some 15) (f := 87) (vs := #[(l[0]).t.v]) rfl rfl (by simp [Act.eval]) (callF Tryz.func87 rfl (by decide) _ _) ?_)
          refine (RValid_any (l[0]).t _).mono ?_
          rintro e w5 ⟨rfl, b5⟩
          have B5 := Lib.hid (Bd.out.trans (by exact b5.mono Bd.out.size))
          have S5 : BlobsAt w5 (.slice (some ⟨b, o, none⟩) l.length c) l := HSS.out.fr (Fr.of_below b5 Nowhere) (fun _ _ h => h)
          rw [hok]
          refine ⟨_, rfl, ?_⟩
          simp only [Act.put, List.setIfInBounds_toArray, List.set_cons_zero, List.set_cons_succ]
          refine ⟨fun _ => S5, ?_⟩
          clear b5 S5
          (refine seq_p (N := some 16) rfl rfl (by rfl) ?_ (fun w' => ?_) ?_
           rotate_left
           · go_simp
             with_reducible rfl
           simp only [Act.put, List.setIfInBounds_toArray, List.set_cons_zero, List.set_cons_succ])
          (refine seq_p (N := some 17) rfl rfl (by rfl) ?_ (fun w' => ?_) ?_
           rotate_left
           · go_simp
             with_reducible rfl
           simp only [Act.put, List.setIfInBounds_toArray, List.set_cons_zero, List.set_cons_succ])
          (refine seq_p (N := some 18) rfl rfl (by rfl) ?_ (fun w' => ?_) ?_
           rotate_left
           · go_simp
             with_reducible rfl
           simp only [Act.put, List.setIfInBounds_toArray, List.set_cons_zero, List.set_cons_succ])
          (refine seq_p (N := some 19) rfl rfl (by rfl) ?_ (fun w' => ?_) ?_
           rotate_left
           · go_simp
             with_reducible rfl
           simp only [Act.put, List.setIfInBounds_toArray, List.set_cons_zero, List.set_cons_succ])
          (refine seq_p (N := some 20) rfl rfl (by rfl) ?_ (fun w' => ?_) ?_
           rotate_left
           · go_simp
             with_reducible rfl
           simp only [Act.put, List.setIfInBounds_toArray, List.set_cons_zero, List.set_cons_succ])
          (refine seq_off (N := some 21) rfl rfl (by rfl) ?_
           simp only [Act.put, List.setIfInBounds_toArray, List.set_cons_zero, List.set_cons_succ])
          (refine seq_off (N := some 22) rfl rfl (by rfl) ?_
           simp only [Act.put, List.setIfInBounds_toArray, List.set_cons_zero, List.set_cons_succ])
          (refine seq_off (N := some 23) rfl rfl (by rfl) ?_
           simp only [Act.put, List.setIfInBounds_toArray, List.set_cons_zero, List.set_cons_succ])
          (refine seq_off (N := some 24) rfl rfl (by rfl) ?_
           simp only [Act.put, List.setIfInBounds_toArray, List.set_cons_zero, List.set_cons_succ])
          (refine seq_off (N := some 25) rfl rfl (by rfl) ?_
           simp only [Act.put, List.setIfInBounds_toArray, List.set_cons_zero, List.set_cons_succ])
          (refine seq_off (N := some 26) rfl rfl (by rfl) ?_
           simp only [Act.put, List.setIfInBounds_toArray, List.set_cons_zero, List.set_cons_succ])
          (refine seq_off (N := some 27) rfl rfl (by rfl) ?_
           simp only [Act.put, List.setIfInBounds_toArray, List.set_cons_zero, List.set_cons_succ])
          (refine seq_off (N := some 28) rfl rfl (by rfl) ?_
           simp only [Act.put, List.setIfInBounds_toArray, List.set_cons_zero, List.set_cons_succ])
          (refine seq_off (N := some 29) rfl rfl (by rfl) ?_
           simp only [Act.put, List.setIfInBounds_toArray, List.set_cons_zero, List.set_cons_succ])
          (refine seq_off (N := some 30) rfl rfl (by rfl) ?_
           simp only [Act.put, List.setIfInBounds_toArray, List.set_cons_zero, List.set_cons_succ])
          (refine seq_off (N := some 31) rfl rfl (by rfl) ?_
           simp only [Act.put, List.setIfInBounds_toArray, List.set_cons_zero, List.set_cons_succ])
          (refine seq_off (N := some 32) rfl rfl (by rfl) ?_
           simp only [Act.put, List.setIfInBounds_toArray, List.set_cons_zero, List.set_cons_succ])
          (refine seq_off (N := some 33) rfl rfl (by rfl) ?_
           simp only [Act.put, List.setIfInBounds_toArray, List.set_cons_zero, List.set_cons_succ])
          (refine seq_p (N := some 34) rfl rfl (by rfl) ?_ (fun w' => ?_) ?_
           rotate_left
           · go_simp
             with_reducible rfl
           simp only [Act.put, List.setIfInBounds_toArray, List.set_cons_zero, List.set_cons_succ])
          (refine seq_p (N := some 35) rfl rfl (by rfl) ?_ (fun w' => ?_) ?_
           rotate_left
           · go_simp
             with_reducible rfl
           simp only [Act.put, List.setIfInBounds_toArray, List.set_cons_zero, List.set_cons_succ])
          refine seq_nil ?_
          go_wp2_with fail
          go_roundw
          case rel => exact ⟨0 + 1, by go_num, by omega, HG2.out, B5.out⟩
          case measure => simp [intOf]; omega
        · obtain ⟨i1, hi1⟩ : ∃ i1 : Nat, (i : Int) - 1 = i1 := ⟨i - 1, by omega⟩
          have hi1c : i1 < l.length := by omega
          have hii : i - 1 = i1 := by omega
          have hw1 : IntKind.i64.wrap (i1 : Int) = i1 := by rw [IntKind.wrap_i64]; omega
          have hi1c' : (i1 : Int) < (l.length : Int) := by omega
          have hpos : (0 : Int) < (i : Int) := by omega
          have hpos2 : 0 < i := by omega
          have HLS : Hid (goodAt l i = (l[i1]).t.less (l[i]).t) := by
            show _ = _
            rw [HGI.out, hok, hii, tlAt_get hi1c, decide_eq_false h0]; rfl
          have H0 := Lib.hid h0
          have HII := Lib.hid hii
          clear h0 hii
          refine region_seq (fun w' => BlobsAt w' (.slice (some ⟨b, o, none⟩) l.length c) l) []
            [(.p, 0), (.p, 1), (.p, 2), (.p, 3), (.q, 4), (.l, 5), (.p, 6), (.p, 7), (.p, 8), (.p, 9), (.p, 10), (.p, 11), (.p, 12), (.p, 13), (.p, 14), (.p, 15), (.q, 16), (.p, 17), (.p, 18), (.p, 19), (.p, 20), (.q, 21), (.l, 22), (.p, 23), (.p, 24), (.p, 25)] (by kernel_rfl) (by kernel_rfl) (by kernel_rfl) (by kernel_rfl) (fun d v c a w h => by cases d <;> exact h) ?_
          (refine seq_p (N := some 10) rfl rfl (by rfl) ?_ (fun w' => ?_) ?_
           rotate_left
           · go_simp
             with_reducible rfl
           simp only [Act.put, List.setIfInBounds_toArray, List.set_cons_zero, List.set_cons_succ])
          (refine seq_p (N := some 11) rfl rfl (by rfl) ?_ (fun w' => ?_) ?_
           rotate_left
           · go_simp
             with_reducible rfl
           simp only [Act.put, List.setIfInBounds_toArray, List.set_cons_zero, List.set_cons_succ])
          (refine seq_p (N := some 12) rfl rfl (by rfl) ?_ (fun w' => ?_) ?_
           rotate_left
           · go_simp
             with_reducible rfl
           simp only [Act.put, List.setIfInBounds_toArray, List.set_cons_zero, List.set_cons_succ])
          (refine seq_p (N := some 13) rfl rfl (by rfl) ?_ (fun w' => ?_) ?_
           rotate_left
           · go_simp
             with_reducible rfl
           simp only [Act.put, List.setIfInBounds_toArray, List.set_cons_zero, List.set_cons_succ])
          (refine seq_q (N := some 14) rfl rfl (by rfl) (l[i]).t.v ?_ HSS.out ?_
           · intro w' s1
             exact run_ld rfl rfl (load_tile (range_tile (s1.nth i hic)))
           simp only [Act.put, List.setIfInBounds_toArray, List.set_cons_zero, List.set_cons_succ])
          refine seq_l rfl (by rfl) (wp_cl (N := some 15) (f := 87) (vs := #[(l[i]).t.v]) rfl rfl (by simp [Act.eval]) (callF Tryz.func87 rfl (by decide) _ _) ?_)
          refine (RValid_any (l[i]).t _).mono ?_
          rintro e w5 ⟨rfl, b5⟩
          have B5 := Lib.hid (Bd.out.trans (by exact b5.mono Bd.out.size))
          have S5 := Lib.hid (show BlobsAt w5 (.slice (some ⟨b, o, none⟩) l.length c) l from HSS.out.fr (Fr.of_below b5 Nowhere) (fun _ _ h => h))
          rw [hok]
          refine ⟨_, rfl, ?_⟩
          simp only [Act.put, List.setIfInBounds_toArray, List.set_cons_zero, List.set_cons_succ]
          refine ⟨fun _ => S5.out, ?_⟩
          clear b5
          (refine seq_p (N := some 16) rfl rfl (by rfl) ?_ (fun w' => ?_) ?_
           rotate_left
           · go_simp
             with_reducible rfl
           simp only [Act.put, List.setIfInBounds_toArray, List.set_cons_zero, List.set_cons_succ])
          (refine seq_p (N := some 17) rfl rfl (by rfl) ?_ (fun w' => ?_) ?_
           rotate_left
           · go_simp
             with_reducible rfl
           simp only [Act.put, List.setIfInBounds_toArray, List.set_cons_zero, List.set_cons_succ])
          (refine seq_p (N := some 18) rfl rfl (by rfl) ?_ (fun w' => ?_) ?_
           rotate_left
           · go_simp
             with_reducible rfl
           simp only [Act.put, List.setIfInBounds_toArray, List.set_cons_zero, List.set_cons_succ])
          (refine seq_p (N := some 19) rfl rfl (by rfl) ?_ (fun w' => ?_) ?_
           rotate_left
           · go_simp
             with_reducible rfl
           simp only [Act.put, List.setIfInBounds_toArray, List.set_cons_zero, List.set_cons_succ])
          (refine seq_p (N := some 20) rfl rfl (by rfl) ?_ (fun w' => ?_) ?_
           rotate_left
           · go_simp
             with_reducible rfl
           simp only [Act.put, List.setIfInBounds_toArray, List.set_cons_zero, List.set_cons_succ])
          (refine seq_p (N := some 21) rfl rfl (by rfl) ?_ (fun w' => ?_) ?_
           rotate_left
           · go_simp
             with_reducible rfl
           simp only [Act.put, List.setIfInBounds_toArray, List.set_cons_zero, List.set_cons_succ])
          (refine seq_p (N := some 22) rfl rfl (by rfl) ?_ (fun w' => ?_) ?_
           rotate_left
           · go_simp
             with_reducible rfl
           simp only [Act.put, List.setIfInBounds_toArray, List.set_cons_zero, List.set_cons_succ])
          (refine seq_p (N := some 23) rfl rfl (by rfl) ?_ (fun w' => ?_) ?_
           rotate_left
           · go_simp
             with_reducible rfl
           simp only [Act.put, List.setIfInBounds_toArray, List.set_cons_zero, List.set_cons_succ])
          (refine seq_p (N := some 24) rfl rfl (by rfl) ?_ (fun w' => ?_) ?_
           rotate_left
           · go_simp
             with_reducible rfl
           simp only [Act.put, List.setIfInBounds_toArray, List.set_cons_zero, List.set_cons_succ])
          (refine seq_p (N := some 25) rfl rfl (by rfl) ?_ (fun w' => ?_) ?_
           rotate_left
           · go_simp
             with_reducible rfl
           simp only [Act.put, List.setIfInBounds_toArray, List.set_cons_zero, List.set_cons_succ])
          (refine seq_q (N := some 26) rfl rfl (by rfl) (l[i1]).t.v ?_ S5.out ?_
           · intro w' s1
             exact run_ld rfl rfl (load_tile (range_tile (s1.nth i1 hi1c)))
           simp only [Act.put, List.setIfInBounds_toArray, List.set_cons_zero, List.set_cons_succ])
          (refine seq_p (N := some 27) rfl rfl (by rfl) ?_ (fun w' => ?_) ?_
           rotate_left
           · go_simp
             with_reducible rfl
           simp only [Act.put, List.setIfInBounds_toArray, List.set_cons_zero, List.set_cons_succ])
          (refine seq_p (N := some 28) rfl rfl (by rfl) ?_ (fun w' => ?_) ?_
           rotate_left
           · go_simp
             with_reducible rfl
           simp only [Act.put, List.setIfInBounds_toArray, List.set_cons_zero, List.set_cons_succ])
          (refine seq_p (N := some 29) rfl rfl (by rfl) ?_ (fun w' => ?_) ?_
           rotate_left
           · go_simp
             with_reducible rfl
           simp only [Act.put, List.setIfInBounds_toArray, List.set_cons_zero, List.set_cons_succ])
          (refine seq_p (N := some 30) rfl rfl (by rfl) ?_ (fun w' => ?_) ?_
           rotate_left
           · go_simp
             with_reducible rfl
           simp only [Act.put, List.setIfInBounds_toArray, List.set_cons_zero, List.set_cons_succ])
          (refine seq_q (N := some 31) rfl rfl (by rfl) (l[i]).t.v ?_ S5.out ?_
           · intro w' s1
             exact run_ld rfl rfl (load_tile (range_tile (s1.nth i hic)))
           simp only [Act.put, List.setIfInBounds_toArray, List.set_cons_zero, List.set_cons_succ])
          refine seq_l rfl (by rfl) (wp_cl (N := some 32) (f := 88) (vs := #[(l[i1]).t.v, (l[i]).t.v]) rfl rfl (by simp [Act.eval]) (callF Tryz.func88 rfl (by decide) _ _) ?_)
          refine (RLess_any (l[i1]).t (l[i]).t w5).mono ?_
          rintro e w6 ⟨rfl, b6⟩
          have B6 := Lib.hid (B5.out.trans (b6.mono B5.out.size))
          have S6 : BlobsAt w6 (.slice (some ⟨b, o, none⟩) l.length c) l := S5.out.fr (Fr.of_below b6 Nowhere) (fun _ _ h => h)
          refine ⟨_, rfl, ?_⟩
          simp only [Act.put, List.setIfInBounds_toArray, List.set_cons_zero, List.set_cons_succ]
          refine ⟨fun _ => S6, ?_⟩
          clear b6 S6
          rcases hls : (l[i1]).t.less (l[i]).t with _ | _
          · have HBAD := Lib.hid (ordB_false hic (by rw [HLS.out, hls]))
            (refine seq_p (N := some 33) rfl rfl (by rfl) ?_ (fun w' => ?_) ?_
             rotate_left
             · go_simp
               with_reducible rfl
             simp only [Act.put, List.setIfInBounds_toArray, List.set_cons_zero, List.set_cons_succ])
            (refine seq_p (N := some 34) rfl rfl (by rfl) ?_ (fun w' => ?_) ?_
             rotate_left
             · go_simp
               with_reducible rfl
             simp only [Act.put, List.setIfInBounds_toArray, List.set_cons_zero, List.set_cons_succ])
            (refine seq_p (N := some 35) rfl rfl (by rfl) ?_ (fun w' => ?_) ?_
             rotate_left
             · go_simp
               with_reducible rfl
             simp only [Act.put, List.setIfInBounds_toArray, List.set_cons_zero, List.set_cons_succ])
            refine seq_nil ?_
            go_wp2_with fail
            go_ret
            rw [HBAD.out]
            exact ⟨rfl, B6.out⟩
          · have HG2 : Hid (∀ j, j < i + 1 → goodAt l j = true) := by
              intro j hj
              by_cases h : j < i
              · exact hg.out j h
              · obtain rfl : j = i := by omega
                rw [HLS.out, hls]
            (refine seq_p (N := some 33) rfl rfl (by rfl) ?_ (fun w' => ?_) ?_
             rotate_left
             · go_simp
               with_reducible rfl
             simp only [Act.put, List.setIfInBounds_toArray, List.set_cons_zero, List.set_cons_succ])
            (refine seq_p (N := some 34) rfl rfl (by rfl) ?_ (fun w' => ?_) ?_
             rotate_left
             · go_simp
               with_reducible rfl
             simp only [Act.put, List.setIfInBounds_toArray, List.set_cons_zero, List.set_cons_succ])
            (refine seq_p (N := some 35) rfl rfl (by rfl) ?_ (fun w' => ?_) ?_
             rotate_left
             · go_simp
               with_reducible rfl
             simp only [Act.put, List.setIfInBounds_toArray, List.set_cons_zero, List.set_cons_succ])
            refine seq_nil ?_
            go_wp2_with fail
            go_roundw
            case rel => exact ⟨i + 1, by go_num, by omega, HG2.out, B6.out⟩
            case measure => simp [intOf]; omega
    · have hic' : ¬ (i : Int) < (l.length : Int) := by omega
      have HT := Lib.hid (ordB_true (l := l) (fun j hj => hg.out j (by omega)))
      go_wp2_with fail
      go_ret
      rw [HT.out]
      exact ⟨rfl, hB.out⟩
end Go.Proofs.YtjflcpkmoamijaaGreatDoor
