import Derived.Test.YtjflcpkmoamijaaGreatDoorRf
namespace Go.Proofs.YtjflcpkmoamijaaGreatDoor
open Go.RowKit
set_option linter.unusedVariables false
set_option linter.unusedSimpArgs false
set_option linter.unnecessarySimpa false

theorem tile3 (w : World) (z x y : Int) : (w.alloc (.cells #[.int .i64 z, .int .i64 x, .int .i64 y] 91)).cell? ⟨w.heap.size, 0, none⟩ = some (.int .i64 z) ∧ (w.alloc (.cells #[.int .i64 z, .int .i64 x, .int .i64 y] 91)).cell? ⟨w.heap.size, 1, none⟩ = some (.int .i64 x) ∧ (w.alloc (.cells #[.int .i64 z, .int .i64 x, .int .i64 y] 91)).cell? ⟨w.heap.size, 2, none⟩ = some (.int .i64 y) := by
  have h := heap_alloc_new w (.cells #[.int .i64 z, .int .i64 x, .int .i64 y] 91)
  exact ⟨cell_of_row _ _ 0 _ _ _ h, cell_of_row _ _ 1 _ _ _ h, cell_of_row _ _ 2 _ _ _ h⟩
theorem keep3 {tb : Nat} {z x y : Int} {wa wb : World} (hb : Below wa.heap.size wa wb) (h : wa.cell? ⟨tb, 0, none⟩ = some (.int .i64 z) ∧ wa.cell? ⟨tb, 1, none⟩ = some (.int .i64 x) ∧ wa.cell? ⟨tb, 2, none⟩ = some (.int .i64 y)) :
    wb.cell? ⟨tb, 0, none⟩ = some (.int .i64 z) ∧ wb.cell? ⟨tb, 1, none⟩ = some (.int .i64 x) ∧ wb.cell? ⟨tb, 2, none⟩ = some (.int .i64 y) :=
  ⟨(World.cell?_of_block (hb.block _ (lt_of_cell' h.1))).trans h.1, (World.cell?_of_block (hb.block _ (lt_of_cell' h.2.1))).trans h.2.1, (World.cell?_of_block (hb.block _ (lt_of_cell' h.2.2))).trans h.2.2⟩
set_option maxHeartbeats 1000000 in
set_option maxRecDepth 100000 in
theorem Record_any (ver : Int) (v : Value) (l : List Bl) (w : World) (h : BlobsAt w v l) (hv : InInt ver) (hl : l.length ≤ 1000) (hf : ∀ x ∈ l, x.fits) :
    Calls Tryz.prog 30 #[.int .i64 ver, v] w fun e w' => e = .returned (.string (encP ver l)) ∧ Below w.heap.size w w' := by
  obtain ⟨ao, c, rfl, hne⟩ := h.sl
  have H := Lib.hid h
  have HNE := Lib.hid hne
  have HV := Lib.hid hv
  have HF := Lib.hid hf
  have hz : IntKind.u64.wrap (l.length : Int) = ((l.length : Nat) : Int) := by rw [wrap_u64']; omega
  have hst := encStart_size ver l.length
  have HE : Hid (encP ver l = l.foldl encOne (app (putI ⟨#[]⟩ ver) (encU l.length))) := rfl
  clear h hne hv hf
  go_enter Tryz.func30, Tryz.ntmps30
  go_wp2_with (first
    | (go_at_call 64; refine (RPutInt_any ⟨#[]⟩ ver _ HV.out (by decide)).mono ?_; rintro e w1 ⟨rfl, hb1⟩; have HB1 := Lib.hid hb1; clear hb1)
    | (go_at_call 63; refine (RPutUint_any (putI ⟨#[]⟩ ver) l.length _ (by omega) (by have := putI_size ⟨#[]⟩ ver; have : (⟨#[]⟩ : ByteArray).size = 0 := rfl; omega)).mono ?_; rintro e w2 ⟨rfl, hb2⟩; have HB2 := Lib.hid (HB1.out.trans (hb2.mono HB1.out.size)); clear hb2))
  generalize app (putI ⟨#[]⟩ ver) (encU l.length) = s0 at *
  go_loopw [5, 6] (fun sv v wr => ∃ (i : Nat) (s : ByteArray), sv = .string s ∧ v = .int .i64 i ∧ i ≤ l.length ∧ Hid (s = (l.take i).foldl encOne s0) ∧ s.size ≤ 20 + i * 4294967336 ∧ Hid (Below w.heap.size w wr)) (fun _ v _ => l.length - (intOf v).toNat)
  case atStart => exact ⟨0, s0, rfl, rfl, by omega, rfl, by omega, HB2.out⟩
  case round =>
    obtain ⟨i, s, rfl, rfl, hi, hs, hsz, hB⟩ := hrel
    by_cases hic : i < l.length
    · have hic' : (i : Int) < (l.length : Int) := by omega
      obtain ⟨b, o, rfl⟩ := HNE.out (by intro h; subst h; simp at hic)
      have Hr := Lib.hid (H.out.fr (Fr.of_below hB.out Nowhere) (fun _ _ h => h))
      have hx := Hr.out.nth i hic
      have hx4 := range4 hx
      have hfx := HF.out (l[i]) (List.getElem_mem hic)
      have hnext : Hid (encOne s (l[i]) = (l.take (i + 1)).foldl encOne s0) := by
        show _ = _; rw [List.take_succ_eq_append_getElem hic, List.foldl_append, ← hs.out]; rfl
      generalize l[i] = x at *
      obtain ⟨⟨z, x, y⟩, t⟩ := x
      have hnsz := Lib.hid (encOne_size s ⟨⟨z, x, y⟩, t⟩ hfx)
      have HFX := Lib.hid hfx
      obtain ⟨k0, k1, k2, k3⟩ := hx4
      simp only at k0 k1 k2 k3
      have K3 := Lib.hid k3
      have hS0 := tile3 wr z x y
      have HS0 := Lib.hid hS0
      have hB1 := hB.out.alloc hB.out.size (.cells #[.int .i64 z, .int .i64 x, .int .i64 y] 91)
      have HB4 := Lib.hid hB1
      have BW := Lib.hid ((Below.refl wr.heap.size wr).alloc (Nat.le_refl _) (.cells #[.int .i64 z, .int .i64 x, .int .i64 y] 91))
      clear hx hfx hS0 hB1
      go_wp2_with fail
      clear k0 k1 k2 k3 hB
      obtain ⟨tb, htb⟩ : ∃ tb, wr.heap.size = tb := ⟨_, rfl⟩
      rw [htb] at HS0 ⊢
      generalize wr.alloc (.cells #[.int .i64 z, .int .i64 x, .int .i64 y] 91) = w1 at *
      refine region_seq (fun w' => w'.cell? ⟨tb, 0, none⟩ = some (.int .i64 z) ∧ w'.cell? ⟨tb, 1, none⟩ = some (.int .i64 x) ∧ w'.cell? ⟨tb, 2, none⟩ = some (.int .i64 y)) []
        [(.p, 0), (.p, 1), (.q, 2), (.p, 4), (.q, 5), (.p, 7), (.q, 8), (.l, 3), (.l, 6), (.l, 9), (.p, 10)] (by kernel_rfl) (by kernel_rfl) (by kernel_rfl) (by kernel_rfl) (fun d v c a w h => by cases d <;> exact h) ?_
      have hS : w1.drew.cell? ⟨tb, 0, none⟩ = some (.int .i64 z) ∧ w1.drew.cell? ⟨tb, 1, none⟩ = some (.int .i64 x) ∧ w1.drew.cell? ⟨tb, 2, none⟩ = some (.int .i64 y) := HS0.out
      (refine seq_p (N := some 25) rfl rfl (by rfl) ?_ (fun w' => ?_) ?_
       rotate_left
       · go_simp
         with_reducible rfl
       simp only [Act.put, List.setIfInBounds_toArray, List.set_cons_zero, List.set_cons_succ])
      (refine seq_p (N := some 26) rfl rfl (by rfl) ?_ (fun w' => ?_) ?_
       rotate_left
       · go_simp
         with_reducible rfl
       simp only [Act.put, List.setIfInBounds_toArray, List.set_cons_zero, List.set_cons_succ])
      (refine seq_q (N := some 27) rfl rfl (by rfl) ?_ ?_ hS ?_
       rotate_left
       · rintro w' ⟨s1, s2, s3⟩
         go_simp
         with_reducible rfl
       simp only [Act.put, List.setIfInBounds_toArray, List.set_cons_zero, List.set_cons_succ])
      (refine seq_p (N := some 29) rfl rfl (by rfl) ?_ (fun w' => ?_) ?_
       rotate_left
       · go_simp
         with_reducible rfl
       simp only [Act.put, List.setIfInBounds_toArray, List.set_cons_zero, List.set_cons_succ])
      (refine seq_q (N := some 30) rfl rfl (by rfl) ?_ ?_ hS ?_
       rotate_left
       · rintro w' ⟨s1, s2, s3⟩
         go_simp
         with_reducible rfl
       simp only [Act.put, List.setIfInBounds_toArray, List.set_cons_zero, List.set_cons_succ])
      (refine seq_p (N := some 32) rfl rfl (by rfl) ?_ (fun w' => ?_) ?_
       rotate_left
       · go_simp
         with_reducible rfl
       simp only [Act.put, List.setIfInBounds_toArray, List.set_cons_zero, List.set_cons_succ])
      (refine seq_q (N := some 33) rfl rfl (by rfl) ?_ ?_ hS ?_
       rotate_left
       · rintro w' ⟨s1, s2, s3⟩
         go_simp
         with_reducible rfl
       simp only [Act.put, List.setIfInBounds_toArray, List.set_cons_zero, List.set_cons_succ])
      have bd := (Below.refl w1.heap.size w1).drew
      refine seq_l rfl (by rfl) (wp_cl (N := some 28) (f := 64) (vs := #[.string s, .int .i64 z]) rfl rfl (by simp [Act.eval]) (callF Tryz.func64 rfl (by decide) _ _) ?_)
      refine (RPutInt_any s z _ HFX.out.1 (by omega)).mono ?_
      rintro e w5 ⟨rfl, bb5⟩
      have S5 := keep3 bb5 hS
      refine ⟨_, rfl, ?_⟩
      simp only [Act.put, List.setIfInBounds_toArray, List.set_cons_zero, List.set_cons_succ]
      refine ⟨fun _ => S5, ?_⟩
      refine seq_l rfl (by rfl) (wp_cl (N := some 31) (f := 64) (vs := #[.string (putI s z), .int .i64 x]) rfl rfl (by simp [Act.eval]) (callF Tryz.func64 rfl (by decide) _ _) ?_)
      refine (RPutInt_any (putI s z) x _ HFX.out.2.1 (by have := putI_size s z; omega)).mono ?_
      rintro e w6 ⟨rfl, bb6⟩
      have S6 := keep3 bb6 S5
      refine ⟨_, rfl, ?_⟩
      simp only [Act.put, List.setIfInBounds_toArray, List.set_cons_zero, List.set_cons_succ]
      refine ⟨fun _ => S6, ?_⟩
      refine seq_l rfl (by rfl) (wp_cl (N := some 34) (f := 64) (vs := #[.string (putI (putI s z) x), .int .i64 y]) rfl rfl (by simp [Act.eval]) (callF Tryz.func64 rfl (by decide) _ _) ?_)
      refine (RPutInt_any (putI (putI s z) x) y _ HFX.out.2.2.1 (by have := putI_size s z; have := putI_size (putI s z) x; omega)).mono ?_
      rintro e w7 ⟨rfl, bb7⟩
      have S7 := keep3 bb7 S6
      refine ⟨_, rfl, ?_⟩
      simp only [Act.put, List.setIfInBounds_toArray, List.set_cons_zero, List.set_cons_succ]
      refine ⟨fun _ => S7, ?_⟩
      (refine seq_p (N := some 5) rfl rfl (by rfl) ?_ (fun w' => ?_) ?_
       rotate_left
       · go_simp
         with_reducible rfl
       simp only [Act.put, List.setIfInBounds_toArray, List.set_cons_zero, List.set_cons_succ])
      refine seq_nil ?_
      have bd7 : Below w1.heap.size w1 w7 := (bd.trans (bb5.mono bd.size)).trans ((bb6.trans (bb7.mono bb6.size)).mono (Nat.le_trans bd.size bb5.size))
      have HB7 := Lib.hid (HB4.out.trans (bd7.mono HB4.out.size))
      have k3 : w7.cell? ⟨b, o + i * 4 + 3, none⟩ = some (.string t) := (World.cell?_of_block ((BW.out.trans (bd7.mono BW.out.size)).block _ (lt_of_cell' K3.out))).trans K3.out
      have hts := HFX.out.2.2.2
      simp only at hts
      clear S5 S6 S7 hS bb5 bb6 bb7 bd bd7 htb
      go_wp2_with fail
      refine (RPutText_any (putI (putI (putI s z) x) y) t _ (by omega) (by have := putI_size s z; have := putI_size (putI s z) x; have := putI_size (putI (putI s z) x) y; omega)).mono ?_
      rintro e w8 ⟨rfl, bb⟩
      have HB8 := Lib.hid (HB7.out.trans (bb.mono HB7.out.size))
      clear bb
      go_wp2_with fail
      go_roundw
      case rel => exact ⟨i + 1, _, rfl, by go_num, by omega, hnext.out, by have := hnsz.out; unfold encOne at this; simp only at this; omega, HB8.out⟩
      case measure => simp [intOf]; omega
    · have hic' : ¬ (i : Int) < (l.length : Int) := by omega
      obtain rfl : i = l.length := by omega
      have HS : Hid (s = encP ver l) := by
        show _ = _
        rw [hs.out, List.take_length, HE.out]
      go_wp2_with fail
      go_ret
      rw [HS.out]
      exact ⟨rfl, hB.out⟩
end Go.Proofs.YtjflcpkmoamijaaGreatDoor
