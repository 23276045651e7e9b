import Derived.Test.YtjflcpkmoamijaaGreatDoorRn
namespace Go.Proofs.YtjflcpkmoamijaaGreatDoor
open Go.RowKit
set_option linter.unusedVariables false
set_option linter.unusedSimpArgs false
set_option linter.unnecessarySimpa false

set_option maxHeartbeats 2000000 in
set_option maxRecDepth 100000 in
theorem RPatch_any (tv dv : Value) (T l : List Bl) (w : World) (ht : BlobsAt w tv T) (hT : TGood T) (hd : BlobsAt w dv l) (ho : ordB l = true) (hf : Fits l) (hl : T.length + l.length ≤ 100000000) :
    Calls Tryz.prog 51 #[tv, dv] w fun e w' => ∃ v', e = .returned v' ∧ BlobsAt w' v' (applyT T l) ∧ Below w.heap.size w w' := by
  obtain ⟨ao, c, rfl, hne⟩ := hd.sl
  have HD := Lib.hid hd
  have HNE := Lib.hid hne
  have HTV := Lib.hid ht
  have HC := Lib.hid (RCheck33_any tv T w ht hT (by omega))
  have HTG := Lib.hid hT
  have HF := Lib.hid hf
  have HO := Lib.hid ho
  have HOK := Lib.hid (ord_ok ho)
  clear ht hT hd ho hf hne
  go_enter Tryz.func51, Tryz.ntmps51
  go_wp2_with fail
  refine HC.out.mono ?_
  rintro e w2 ⟨rfl, b2⟩
  have D2 := Lib.hid (HD.out.fr (Fr.of_below b2 Nowhere) (fun _ _ h => h))
  have T2 := Lib.hid (HTV.out.fr (Fr.of_below b2 Nowhere) (fun _ _ h => h))
  have B2 := Lib.hid b2
  have hor := ROrdered_any _ l w2 D2.out (by omega)
  rw [HO.out] at hor
  have HOR := Lib.hid hor
  clear b2 hor HC
  go_wp2_with (refine HOR.out.mono ?_; rintro e w3 ⟨rfl, b3⟩; have D3 := Lib.hid (D2.out.fr (Fr.of_below b3 Nowhere) (fun _ _ h => h)); have T3 := Lib.hid (T2.out.fr (Fr.of_below b3 Nowhere) (fun _ _ h => h)); have B3 := Lib.hid (B2.out.trans (b3.mono B2.out.size)); clear b3)
  go_loopw [0, 5] (fun tv iv wr => ∃ (i : Nat) (Ti : List Bl), iv = .int .i64 i ∧ i ≤ l.length ∧ Ti.length ≤ T.length + i ∧ Hid (Ti = applyT T (l.take i)) ∧ Hid (TGood Ti) ∧ Hid (BlobsAt wr tv Ti) ∧ Hid (Below w.heap.size w wr)) (fun _ iv _ => l.length - (intOf iv).toNat)
  case atStart => exact ⟨0, T, rfl, by omega, by omega, rfl, HTG.out, T3.out, B3.out⟩
  case round =>
    obtain ⟨i, Ti, rfl, hi, hTi, hTe, hTg, hTb, hB⟩ := hrel
    by_cases hic : i < l.length
    · have hic' : (i : Int) < (l.length : Int) := by omega
      obtain ⟨b, o, rfl⟩ := HNE.out (by intro h; subst h; simp at hic)
      have hx := (HD.out.fr (Fr.of_below hB.out Nowhere) (fun _ _ h => h)).nth i hic
      have hfx := HF.out (l[i]) (List.getElem_mem hic)
      have hokx := HOK.out (l[i]) (List.getElem_mem hic)
      have hnext : Hid (patch1 Ti (l[i]) = applyT T (l.take (i + 1))) := by
        show _ = _; rw [hTe.out]; unfold applyT; rw [List.take_succ_eq_append_getElem hic, List.foldl_append]; rfl
      generalize l[i] = x at *
      have hgood : Hid (TGood (patch1 Ti x)) := hTg.out.apply (l := [x]) (by intro b hb; rw [List.mem_singleton.1 hb]; exact hfx) (by intro b hb; rw [List.mem_singleton.1 hb]; exact hokx)
      have hlen : (patch1 Ti x).length ≤ T.length + (i + 1) := by
        have := apply_len [x] Ti
        show (applyT Ti [x]).length ≤ _
        simp at this; omega
      have HLEN := Lib.hid hlen
      have HPL := Lib.hid (putL_patch x Ti hTg.out.so)
      have HX := Lib.hid hx
      clear hfx hokx hlen hx
      go_wp2_with fail
      refine region_seq (fun w' => w'.rangeAt b (o + i * 4) x.cells) []
        [(.p, 0), (.p, 1), (.p, 2), (.p, 3), (.p, 4), (.q, 5), (.p, 6), (.p, 7), (.p, 8), (.p, 9), (.q, 10), (.l, 11), (.p, 12)] (by kernel_rfl) (by kernel_rfl) (by kernel_rfl) (by kernel_rfl) (fun d v c a w h => by cases d <;> exact h) ?_
      have hS : wr.drew.rangeAt b (o + i * 4) x.cells := HX.out
      (refine seq_p (N := some 20) rfl rfl (by rfl) ?_ (fun w' => ?_) ?_
       rotate_left
       · go_simp
         with_reducible rfl
       simp only [Act.put, List.setIfInBounds_toArray, List.set_cons_zero, List.set_cons_succ])
      (refine seq_p (N := some 21) rfl rfl (by rfl) ?_ (fun w' => ?_) ?_
       rotate_left
       · go_simp
         with_reducible rfl
       simp only [Act.put, List.setIfInBounds_toArray, List.set_cons_zero, List.set_cons_succ])
      (refine seq_p (N := some 22) rfl rfl (by rfl) ?_ (fun w' => ?_) ?_
       rotate_left
       · go_simp
         with_reducible rfl
       simp only [Act.put, List.setIfInBounds_toArray, List.set_cons_zero, List.set_cons_succ])
      (refine seq_p (N := some 23) rfl rfl (by rfl) ?_ (fun w' => ?_) ?_
       rotate_left
       · go_simp
         with_reducible rfl
       simp only [Act.put, List.setIfInBounds_toArray, List.set_cons_zero, List.set_cons_succ])
      (refine seq_p (N := some 24) rfl rfl (by rfl) ?_ (fun w' => ?_) ?_
       rotate_left
       · go_simp
         with_reducible rfl
       simp only [Act.put, List.setIfInBounds_toArray, List.set_cons_zero, List.set_cons_succ])
      (refine seq_q (N := some 25) rfl rfl (by rfl) x.t.v ?_ hS ?_
       · rintro w' s2
         exact run_ld rfl rfl (load_tile (range_tile s2))
       simp only [Act.put, List.setIfInBounds_toArray, List.set_cons_zero, List.set_cons_succ])
      (refine seq_p (N := some 26) rfl rfl (by rfl) ?_ (fun w' => ?_) ?_
       rotate_left
       · go_simp
         with_reducible rfl
       simp only [Act.put, List.setIfInBounds_toArray, List.set_cons_zero, List.set_cons_succ])
      (refine seq_p (N := some 27) rfl rfl (by rfl) ?_ (fun w' => ?_) ?_
       rotate_left
       · go_simp
         with_reducible rfl
       simp only [Act.put, List.setIfInBounds_toArray, List.set_cons_zero, List.set_cons_succ])
      (refine seq_p (N := some 28) rfl rfl (by rfl) ?_ (fun w' => ?_) ?_
       rotate_left
       · go_simp
         with_reducible rfl
       simp only [Act.put, List.setIfInBounds_toArray, List.set_cons_zero, List.set_cons_succ])
      (refine seq_p (N := some 29) rfl rfl (by rfl) ?_ (fun w' => ?_) ?_
       rotate_left
       · go_simp
         with_reducible rfl
       simp only [Act.put, List.setIfInBounds_toArray, List.set_cons_zero, List.set_cons_succ])
      (refine seq_q (N := some 30) rfl rfl (by rfl) (.string x.s) ?_ hS ?_
       · rintro w' s2
         have k3 := (range4 s2).2.2.2
         go_simp
       simp only [Act.put, List.setIfInBounds_toArray, List.set_cons_zero, List.set_cons_succ])
      have hput := RPut33_any u0 Ti x wr.drew (hTb.out.drewN 1) (by omega)
      rw [HPL.out] at hput
      refine seq_l rfl (by rfl) (wp_cl (N := some 31) (f := 90) (vs := #[u0, x.t.v, .string x.s]) rfl rfl (by simp [Act.eval]) (callF Tryz.func90 rfl (by decide) _ _) ?_)
      refine hput.mono ?_
      rintro e w5 ⟨v5, rfl, o5, b5⟩
      have b5' : Below wr.heap.size wr w5 := ((Below.refl wr.heap.size wr).drew).trans (by exact b5)
      have B5 := Lib.hid (hB.out.trans (b5'.mono hB.out.size))
      have V5 := Lib.hid (own_blobs o5)
      have S5 := rangeAt_fr HX.out (Fr.of_below b5' Nowhere) (fun h => h)
      refine ⟨_, rfl, ?_⟩
      simp only [Act.put, List.setIfInBounds_toArray, List.set_cons_zero, List.set_cons_succ]
      refine ⟨fun _ => S5, ?_⟩
      clear b5 b5' S5 o5 hput hS
      (refine seq_p (N := some 0) rfl rfl (by rfl) ?_ (fun w' => ?_) ?_
       rotate_left
       · go_simp
         with_reducible rfl
       simp only [Act.put, List.setIfInBounds_toArray, List.set_cons_zero, List.set_cons_succ])
      refine seq_nil ?_
      go_wp2_with fail
      go_roundw
      case rel => exact ⟨i + 1, _, by go_num, by omega, HLEN.out, hnext.out, hgood.out, V5.out, B5.out⟩
      case measure => simp [intOf]; omega
    · have hic' : ¬ (i : Int) < (l.length : Int) := by omega
      have hfin : Hid (Ti = applyT T l) := by show _ = _; rw [hTe.out, List.take_of_length_le (by omega)]
      go_wp2_with fail
      go_ret
      rw [← hfin.out]
      exact ⟨_, rfl, hTb.out, hB.out⟩
end Go.Proofs.YtjflcpkmoamijaaGreatDoor
