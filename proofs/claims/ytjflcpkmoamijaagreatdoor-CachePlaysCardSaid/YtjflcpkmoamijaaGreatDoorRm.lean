import Derived.Test.YtjflcpkmoamijaaGreatDoorRl
namespace Go.Proofs.YtjflcpkmoamijaaGreatDoor
open Go.RowKit
set_option linter.unusedVariables false
set_option linter.unusedSimpArgs false
set_option linter.unnecessarySimpa false

set_option maxHeartbeats 2000000 in
set_option maxRecDepth 100000 in
theorem RCheck33_any (v : Value) (l : List Bl) (w : World) (h : BlobsAt w v l) (hT : TGood l) (hl : l.length ≤ 1000000000) :
    Calls Tryz.prog 89 #[v] w fun e w' => e = .returned (.int .i64 0) ∧ Below w.heap.size w w' := by
  obtain ⟨ao, c, rfl, hne⟩ := h.sl
  have H := Lib.hid h
  have HNE := Lib.hid hne
  have HT := Lib.hid hT
  clear h hne hT
  go_enter Tryz.func89, Tryz.ntmps89
  go_wp2_with fail
  go_loopw [3] (fun v wr => ∃ i : Nat, v = .int .i64 i ∧ i ≤ l.length ∧ Hid (Below w.heap.size w wr)) (fun v _ => l.length - (intOf v).toNat)
  case atStart => exact ⟨0, rfl, by omega, Below.refl _ _⟩
  case round =>
    obtain ⟨i, rfl, hi, hB⟩ := hrel
    by_cases hic : i < l.length
    · have hic' : (i : Int) < (l.length : Int) := by omega
      obtain ⟨b, o, rfl⟩ := HNE.out (by intro h; subst h; simp at hic)
      have Hr := Lib.hid (H.out.fr (Fr.of_below hB.out Nowhere) (fun _ _ h => h))
      have hok := HT.out.ok _ (List.getElem_mem hic)
      have hx4 := range4 (Hr.out.nth i hic)
      have hv := RValid_any (l[i]).t wr
      rw [hok.1] at hv
      have HV := Lib.hid hv
      have hsz := hok.2
      have HSZ := Lib.hid hsz
      have hne0 : ¬ (l[i]).s = (⟨#[]⟩ : ByteArray) := by intro e; rw [e] at hsz; exact hsz rfl
      have HNE0 := Lib.hid hne0
      obtain ⟨k0, k1, k2, k3⟩ := hx4
      have HK3 := Lib.hid k3
      have HLI : Hid (∀ (hh : i < l.length) (j : Nat) (hj : j + 1 = i), (l[j]'(by omega)).t.less (l[i]).t = true) := by
        intro hh j hj
        exact List.pairwise_iff_getElem.1 HT.out.so j i (by omega) hh (by omega)
      clear hok hv hsz k3 hne0
      unfold Tl.v at HV
      go_wp2_with fail
      refine HV.out.mono ?_
      rintro e w2 ⟨rfl, b2⟩
      have H2 := Lib.hid (Hr.out.fr (Fr.of_below b2 Nowhere) (fun _ _ h => h))
      have B2 := Lib.hid (hB.out.trans (b2.mono hB.out.size))
      clear b2 k0 k1 k2 HV HK3 Hr hB
      go_wp2_with fail
      have hse : (l[i]).s.toList.isEmpty = false := by
        rw [empt]
        have := HSZ.out
        simpa using this
      by_cases h0 : i = 0
      focus
        subst h0
        refine region_seq (fun w' => BlobsAt w' (.slice (some ⟨b, o, none⟩) l.length c) l) []
          [(.p, 0), (.p, 1), (.p, 2), (.p, 3), (.p, 4), (.p, 5), (.p, 6), (.p, 7), (.p, 8), (.p, 9), (.p, 10), (.p, 11), (.p, 12), (.p, 13), (.p, 14), (.p, 15), (.p, 16)] (by kernel_rfl) (by kernel_rfl) (by kernel_rfl) (by kernel_rfl) (fun d v c a w h => by cases d <;> exact h) ?_
        (refine seq_p (N := some 17) rfl rfl (by rfl) ?_ (fun w' => ?_) ?_
         rotate_left
         · go_simp
           with_reducible rfl
         simp only [Act.put, List.setIfInBounds_toArray, List.set_cons_zero, List.set_cons_succ])
        (refine seq_p (N := some 18) rfl rfl (by rfl) ?_ (fun w' => ?_) ?_
         rotate_left
         · go_simp
           with_reducible rfl
         simp only [Act.put, List.setIfInBounds_toArray, List.set_cons_zero, List.set_cons_succ])
        (refine seq_p (N := some 19) rfl rfl (by rfl) ?_ (fun w' => ?_) ?_
         rotate_left
         · go_simp
           with_reducible rfl
         simp only [Act.put, List.setIfInBounds_toArray, List.set_cons_zero, List.set_cons_succ])
        (refine seq_off (N := some 20) rfl rfl (by rfl) ?_
         simp only [Act.put, List.setIfInBounds_toArray, List.set_cons_zero, List.set_cons_succ])
        (refine seq_off (N := some 21) rfl rfl (by rfl) ?_
         simp only [Act.put, List.setIfInBounds_toArray, List.set_cons_zero, List.set_cons_succ])
        (refine seq_off (N := some 22) rfl rfl (by rfl) ?_
         simp only [Act.put, List.setIfInBounds_toArray, List.set_cons_zero, List.set_cons_succ])
        (refine seq_off (N := some 23) rfl rfl (by rfl) ?_
         simp only [Act.put, List.setIfInBounds_toArray, List.set_cons_zero, List.set_cons_succ])
        (refine seq_off (N := some 24) rfl rfl (by rfl) ?_
         simp only [Act.put, List.setIfInBounds_toArray, List.set_cons_zero, List.set_cons_succ])
        (refine seq_off (N := some 25) rfl rfl (by rfl) ?_
         simp only [Act.put, List.setIfInBounds_toArray, List.set_cons_zero, List.set_cons_succ])
        (refine seq_off (N := some 26) rfl rfl (by rfl) ?_
         simp only [Act.put, List.setIfInBounds_toArray, List.set_cons_zero, List.set_cons_succ])
        (refine seq_off (N := some 27) rfl rfl (by rfl) ?_
         simp only [Act.put, List.setIfInBounds_toArray, List.set_cons_zero, List.set_cons_succ])
        (refine seq_off (N := some 28) rfl rfl (by rfl) ?_
         simp only [Act.put, List.setIfInBounds_toArray, List.set_cons_zero, List.set_cons_succ])
        (refine seq_off (N := some 29) rfl rfl (by rfl) ?_
         simp only [Act.put, List.setIfInBounds_toArray, List.set_cons_zero, List.set_cons_succ])
        (refine seq_off (N := some 30) rfl rfl (by rfl) ?_
         simp only [Act.put, List.setIfInBounds_toArray, List.set_cons_zero, List.set_cons_succ])
        (refine seq_off (N := some 31) rfl rfl (by rfl) ?_
         simp only [Act.put, List.setIfInBounds_toArray, List.set_cons_zero, List.set_cons_succ])
        (refine seq_off (N := some 32) rfl rfl (by rfl) ?_
         simp only [Act.put, List.setIfInBounds_toArray, List.set_cons_zero, List.set_cons_succ])
        (refine seq_p (N := some 33) rfl rfl (by rfl) ?_ (fun w' => ?_) ?_
         rotate_left
         · go_simp
           with_reducible rfl
         simp only [Act.put, List.setIfInBounds_toArray, List.set_cons_zero, List.set_cons_succ])
        refine seq_nil ?_
        have H3 : Hid (BlobsAt w2.drew (.slice (some ⟨b, o, none⟩) l.length c) l) := H2.out.drewN 1
        have B3 : Hid (Below w.heap.size w w2.drew) := B2.out.drew
        have hx4 := range4 (H3.out.nth 0 hic)
        have k3 := hx4.2.2.2
        clear hx4
        generalize w2.drew = w3 at *
        go_wp2_with fail
        go_roundw
        case rel => exact ⟨0 + 1, by go_num, by omega, B3.out⟩
        case measure => simp [intOf]; omega
      obtain ⟨i1, hi1⟩ : ∃ i1 : Nat, (i : Int) - 1 = i1 := ⟨i - 1, by omega⟩
      have hi1c : i1 < l.length := by omega
      have hw1 : IntKind.i64.wrap (i1 : Int) = i1 := by rw [IntKind.wrap_i64]; omega
      have hi1c' : (i1 : Int) < (l.length : Int) := by omega
      have hpos : (0 : Int) < (i : Int) := by omega
      have hpos2 : 0 < i := by omega
      have HLS : Hid ((l[i1]).t.less (l[i]).t = true) := HLI.out hic i1 (by omega)
      have HS2 : Hid (BlobsAt w2.drew (.slice (some ⟨b, o, none⟩) l.length c) l) := H2.out.drewN 1
      clear h0 HLI
      refine region_seq (fun w' => BlobsAt w' (.slice (some ⟨b, o, none⟩) l.length c) l) []
        [(.p, 0), (.p, 1), (.p, 2), (.p, 3), (.p, 4), (.p, 5), (.p, 6), (.p, 7), (.q, 8), (.p, 9), (.p, 10), (.p, 11), (.p, 12), (.q, 13), (.l, 14), (.p, 15), (.p, 16)] (by kernel_rfl) (by kernel_rfl) (by kernel_rfl) (by kernel_rfl) (fun d v c a w h => by cases d <;> exact h) ?_
      (refine seq_p (N := some 17) rfl rfl (by rfl) ?_ (fun w' => ?_) ?_
       rotate_left
       · go_simp
         with_reducible rfl
       simp only [Act.put, List.setIfInBounds_toArray, List.set_cons_zero, List.set_cons_succ])
      (refine seq_p (N := some 18) rfl rfl (by rfl) ?_ (fun w' => ?_) ?_
       rotate_left
       · go_simp
         with_reducible rfl
       simp only [Act.put, List.setIfInBounds_toArray, List.set_cons_zero, List.set_cons_succ])
      (refine seq_p (N := some 19) rfl rfl (by rfl) ?_ (fun w' => ?_) ?_
       rotate_left
       · go_simp
         with_reducible rfl
       simp only [Act.put, List.setIfInBounds_toArray, List.set_cons_zero, List.set_cons_succ])
      (refine seq_p (N := some 20) rfl rfl (by rfl) ?_ (fun w' => ?_) ?_
       rotate_left
       · go_simp
         with_reducible rfl
       simp only [Act.put, List.setIfInBounds_toArray, List.set_cons_zero, List.set_cons_succ])
      (refine seq_p (N := some 21) rfl rfl (by rfl) ?_ (fun w' => ?_) ?_
       rotate_left
       · go_simp
         with_reducible rfl
       simp only [Act.put, List.setIfInBounds_toArray, List.set_cons_zero, List.set_cons_succ])
      (refine seq_p (N := some 22) rfl rfl (by rfl) ?_ (fun w' => ?_) ?_
       rotate_left
       · go_simp
         with_reducible rfl
       simp only [Act.put, List.setIfInBounds_toArray, List.set_cons_zero, List.set_cons_succ])
      (refine seq_p (N := some 23) rfl rfl (by rfl) ?_ (fun w' => ?_) ?_
       rotate_left
       · go_simp
         with_reducible rfl
       simp only [Act.put, List.setIfInBounds_toArray, List.set_cons_zero, List.set_cons_succ])
      (refine seq_p (N := some 24) rfl rfl (by rfl) ?_ (fun w' => ?_) ?_
       rotate_left
       · go_simp
         with_reducible rfl
       simp only [Act.put, List.setIfInBounds_toArray, List.set_cons_zero, List.set_cons_succ])
      (refine seq_q (N := some 25) rfl rfl (by rfl) (l[i1]).t.v ?_ HS2.out ?_
       · intro w' s1
         exact run_ld rfl rfl (load_tile (range_tile (s1.nth i1 hi1c)))
       simp only [Act.put, List.setIfInBounds_toArray, List.set_cons_zero, List.set_cons_succ])
      (refine seq_p (N := some 26) rfl rfl (by rfl) ?_ (fun w' => ?_) ?_
       rotate_left
       · go_simp
         with_reducible rfl
       simp only [Act.put, List.setIfInBounds_toArray, List.set_cons_zero, List.set_cons_succ])
      (refine seq_p (N := some 27) rfl rfl (by rfl) ?_ (fun w' => ?_) ?_
       rotate_left
       · go_simp
         with_reducible rfl
       simp only [Act.put, List.setIfInBounds_toArray, List.set_cons_zero, List.set_cons_succ])
      (refine seq_p (N := some 28) rfl rfl (by rfl) ?_ (fun w' => ?_) ?_
       rotate_left
       · go_simp
         with_reducible rfl
       simp only [Act.put, List.setIfInBounds_toArray, List.set_cons_zero, List.set_cons_succ])
      (refine seq_p (N := some 29) rfl rfl (by rfl) ?_ (fun w' => ?_) ?_
       rotate_left
       · go_simp
         with_reducible rfl
       simp only [Act.put, List.setIfInBounds_toArray, List.set_cons_zero, List.set_cons_succ])
      (refine seq_q (N := some 30) rfl rfl (by rfl) (l[i]).t.v ?_ HS2.out ?_
       · intro w' s1
         exact run_ld rfl rfl (load_tile (range_tile (s1.nth i hic)))
       simp only [Act.put, List.setIfInBounds_toArray, List.set_cons_zero, List.set_cons_succ])
      refine seq_l rfl (by rfl) (wp_cl (N := some 31) (f := 88) (vs := #[(l[i1]).t.v, (l[i]).t.v]) rfl rfl (by simp [Act.eval]) (callF Tryz.func88 rfl (by decide) _ _) ?_)
      refine (RLess_any (l[i1]).t (l[i]).t _).mono ?_
      rintro e w3 ⟨rfl, b3⟩
      have b3' : Below w2.heap.size w2 w3 := ((Below.refl w2.heap.size w2).drew).trans (by exact b3)
      have B3 := Lib.hid (B2.out.trans (b3'.mono B2.out.size))
      have H3 := Lib.hid (show BlobsAt w3 (.slice (some ⟨b, o, none⟩) l.length c) l from H2.out.fr (Fr.of_below b3' Nowhere) (fun _ _ h => h))
      rw [HLS.out]
      refine ⟨_, rfl, ?_⟩
      simp only [Act.put, List.setIfInBounds_toArray, List.set_cons_zero, List.set_cons_succ]
      refine ⟨fun _ => H3.out, ?_⟩
      clear b3 b3'
      (refine seq_p (N := some 32) rfl rfl (by rfl) ?_ (fun w' => ?_) ?_
       rotate_left
       · go_simp
         with_reducible rfl
       simp only [Act.put, List.setIfInBounds_toArray, List.set_cons_zero, List.set_cons_succ])
      (refine seq_p (N := some 33) rfl rfl (by rfl) ?_ (fun w' => ?_) ?_
       rotate_left
       · go_simp
         with_reducible rfl
       simp only [Act.put, List.setIfInBounds_toArray, List.set_cons_zero, List.set_cons_succ])
      refine seq_nil ?_
      have hx4 := range4 (H3.out.nth i hic)
      have k3 := hx4.2.2.2
      clear hx4
      go_wp2_with fail
      go_roundw
      case rel => exact ⟨i + 1, by go_num, by omega, B3.out⟩
      case measure => simp [intOf]; omega
    · have hic' : ¬ (i : Int) < (l.length : Int) := by omega
      go_wp2_with fail
      go_ret
      exact ⟨rfl, hB.out⟩
end Go.Proofs.YtjflcpkmoamijaaGreatDoor
