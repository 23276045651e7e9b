import Derived.Test.YtjflcpkmoamijaaGreatDoorQe
namespace Go.Proofs.YtjflcpkmoamijaaGreatDoor
open Go.RowKit
set_option linter.unusedVariables false
set_option linter.unusedSimpArgs false
set_option linter.unnecessarySimpa false

/-! ### The reference's Reset to one record -/
theorem set_swap (l : List Blk) (i j : Nat) (x y : Blk) (h : i ≠ j) : (l.set i x).set j y = (l.set j y).set i x := List.set_comm x y h
theorem reset_same (D : Dev) (ep : Nat) (s : ByteArray) : ((wN D (recW (fst0 D (nextE ep)) s (if fst0 D (nextE ep) + 1 + cnt s.size < fst0 D (nextE ep) + hlf D then [(fst0 D (nextE ep) + 1 + cnt s.size, ⟨#[]⟩)] else []))).write 0 (rootS (nextE ep))).now = (wN D (resetW D ep [s])).now := by
  have e1 : sumC [s] = 1 + cnt s.size := by simp [sumC]
  unfold resetW recW
  rw [e1]
  simp only [resW]
  generalize fst0 D (nextE ep) = a
  by_cases hx : 1 + cnt s.size < hlf D
  · rw [if_pos hx, if_pos (by omega)]
    simp only [wN_app, List.append_nil]
    have e2 : a + 1 + cnt s.size = a + (1 + cnt s.size) := by omega
    rw [e2]
    show ((((wN D (bodyW a s)).now.set (a + (1 + cnt s.size)) (padB ⟨#[]⟩)).set a (padB (headS s.size))).set 0 (padB (rootS (nextE ep)))) = ((((wN D (bodyW a s)).now.set a (padB (headS s.size))).set (a + (1 + cnt s.size)) (padB ⟨#[]⟩)).set 0 (padB (rootS (nextE ep))))
    rw [set_swap _ _ a _ _ (by omega)]
  · rw [if_neg hx, if_neg (by omega)]
    simp only [wN_app, List.append_nil, List.nil_append]
    rfl
set_option maxHeartbeats 1000000 in
set_option maxRecDepth 100000 in
theorem RReset_full (v : Value) {D : Dev} {ep u : Nat} {l : List ByteArray} (g cp : Nat) (s : ByteArray) (w : World) (h : BksAt w v D) (hd : Rd D ep u l) (hg : w.cell? ⟨g, 0, none⟩ = some (.string s)) (hs : s.size ≤ 140737488351232) (hf : hlf D < 1 + cnt s.size) :
    Calls Tryz.prog 58 #[v, .slice (some ⟨g, 0, none⟩) 1 cp] w fun e w' => e = .returned (.tuple #[v, .int .i64 20]) ∧ Below w.heap.size w w' := by
  have hh := hlf_half hd.h5 hd.ht
  have ht := hd.ht
  have hep := numJ_le2 (parse_iff.1 hd.p).2.1
  have HE := Lib.hid (REpoch_any v w h hd)
  have HH : Hid (∀ w, Calls Tryz.prog 95 #[v] w fun e w' => e = .returned (.int .i64 (hlf D)) ∧ w' = w) := fun w => RHalf_any _ D.now.length w h.sl (by have := hd.ht; omega) (by have := hd.h5; omega)
  have hnl : nextE ep ≤ 2147483647 := by unfold nextE; split <;> omega
  have HF := Lib.hid (fun w => Rfirst_any v D (nextE ep) w h.sl (by have := hd.ht; omega) (by have := hd.h5; omega) hnl)
  have HB := Lib.hid (fun w => Rblocks_any s.size w hs)
  have H := Lib.hid h
  have hcc : cnt s.size ≤ 140737488351232 := by unfold cnt; omega
  have G := Lib.hid hg
  have hN : (ep : Int) = 2147483647 ∧ nextE ep = 0 ∨ (ep : Int) ≠ 2147483647 ∧ nextE ep = ep + 1 := by unfold nextE; split <;> omega
  obtain ⟨nx, hnx⟩ : ∃ nx, nextE ep = nx := ⟨_, rfl⟩
  rw [hnx] at hN HF hnl
  clear hnx
  generalize fst0 D nx = a at *
  obtain ⟨ao, c, rfl⟩ := h.sl
  have hf' : ((hlf D : Int) - 0) < 1 + (cnt s.size : Int) := by omega
  have hf2 : (hlf D : Int) < 1 + (cnt s.size : Int) := by omega
  clear h hd hf hg
  go_enter Tryz.func58, Tryz.ntmps58
  go_wp2_with fail
  refine HE.out.mono ?_
  rintro e w2 ⟨rfl, b2⟩
  have B2 := Lib.hid b2
  have H2 := Lib.hid (H.out.below b2)
  have hg2 := (World.cell?_of_block (b2.block _ (lt_of_cell' G.out))).trans G.out
  clear b2 G
  rcases hN with ⟨hN, hX⟩ | ⟨hN, hX⟩
  focus
    have hN' : ((ep : Int) == 2147483647) = true := by rw [beq_iff_eq]; exact hN
    subst hX
    clear hN
    go_wp2_with (first
      | (refine (HH.out _).mono ?_; rintro e w3 ⟨rfl, rfl⟩)
      | (refine (HF.out _).mono ?_; rintro e w4 ⟨rfl, rfl⟩))
    clear hN'
  rotate_left
  focus
    have hN' : ((ep : Int) == 2147483647) = false := by rw [beq_eq_false_iff_ne]; exact hN
    have hX' : (ep : Int) + 1 = nx := by omega
    clear hN hX
    go_wp2_with (first
      | (refine (HH.out _).mono ?_; rintro e w3 ⟨rfl, rfl⟩)
      | (refine (HF.out _).mono ?_; rintro e w4 ⟨rfl, rfl⟩))
    clear hN' hX'
  all_goals
    go_loopw [11, 12, 13] (fun uv ov iv wr => uv = .int .i64 0 ∧ ov = .slice ao D.now.length c ∧ iv = .int .i64 0 ∧ wr = w4) (fun _ _ _ _ => 0)
    case atStart => exact ⟨rfl, rfl, rfl, rfl⟩
    case round =>
      obtain ⟨rfl, rfl, rfl, hw⟩ := hrel
      subst hw
      go_wp2_with (refine (HB.out _).mono ?_; rintro e w5 ⟨rfl, rfl⟩)
      go_ret2
      exact ⟨rfl, B2.out⟩
set_option maxHeartbeats 2000000 in
set_option maxRecDepth 100000 in
theorem RReset_any (v : Value) {D : Dev} {ep u : Nat} {l : List ByteArray} (g cp : Nat) (s : ByteArray) (w : World) (h : BksAt w v D) (hd : Rd D ep u l) (hg : w.cell? ⟨g, 0, none⟩ = some (.string s)) (hs : s.size ≤ 140737488351232) (hf : ¬ hlf D < 1 + cnt s.size) :
    Calls Tryz.prog 58 #[v, .slice (some ⟨g, 0, none⟩) 1 cp] w fun e w' => ∃ v', e = .returned (.tuple #[v', .int .i64 0]) ∧ BksAt w' v' (wN D (resetW D ep [s])) ∧ Fresh w v' w' ∧ Below w.heap.size w w' := by
  have hh := hlf_half hd.h5 hd.ht
  have ht := hd.ht
  have hep := numJ_le2 (parse_iff.1 hd.p).2.1
  have HE := Lib.hid (REpoch_any v w h hd)
  have HH : Hid (∀ w, Calls Tryz.prog 95 #[v] w fun e w' => e = .returned (.int .i64 (hlf D)) ∧ w' = w) := fun w => RHalf_any _ D.now.length w h.sl (by have := hd.ht; omega) (by have := hd.h5; omega)
  have hnl : nextE ep ≤ 2147483647 := by unfold nextE; split <;> omega
  have HF := Lib.hid (fun w => Rfirst_any v D (nextE ep) w h.sl (by have := hd.ht; omega) (by have := hd.h5; omega) hnl)
  have HB := Lib.hid (fun w => Rblocks_any s.size w hs)
  have H := Lib.hid h
  have hcc : cnt s.size ≤ 140737488351232 := by unfold cnt; omega
  have G := Lib.hid hg
  have hN : (ep : Int) = 2147483647 ∧ nextE ep = 0 ∨ (ep : Int) ≠ 2147483647 ∧ nextE ep = ep + 1 := by unfold nextE; split <;> omega
  have HEQ := Lib.hid (reset_same D ep s)
  have hend := fst0_end D (nextE ep) hh.1
  have HP := Lib.hid (fun w h => Rput_any v D (fst0 D (nextE ep)) (fst0 D (nextE ep) + hlf D) s w h ht (by omega) (by omega))
  have HLD := Lib.hid (wN_len D (recW (fst0 D (nextE ep)) s (if fst0 D (nextE ep) + 1 + cnt s.size < fst0 D (nextE ep) + hlf D then [(fst0 D (nextE ep) + 1 + cnt s.size, ⟨#[]⟩)] else [])))
  generalize wN D (recW (fst0 D (nextE ep)) s (if fst0 D (nextE ep) + 1 + cnt s.size < fst0 D (nextE ep) + hlf D then [(fst0 D (nextE ep) + 1 + cnt s.size, ⟨#[]⟩)] else [])) = D1 at *
  generalize wN D (resetW D ep [s]) = DR at *
  have hrl : (rootS (nextE ep)).size ≤ 64 := by
    unfold rootS
    rw [app_size]
    have := encU_len (nextE ep)
    have h1 : (⟨#[77, 65, 80, 74]⟩ : ByteArray).size = 4 := rfl
    omega
  have HRL := Lib.hid hrl
  have HPU : Hid (∀ w, Calls Tryz.prog 63 #[.string ⟨#[77, 65, 80, 74]⟩, .int .u64 (nextE ep)] w fun e w' => e = .returned (.string (rootS (nextE ep))) ∧ Below w.heap.size w w') := fun w => RPutUint_any ⟨#[77, 65, 80, 74]⟩ (nextE ep) w (by omega) (by decide)
  clear hrl
  generalize rootS (nextE ep) = rt at *
  have hz : IntKind.u64.wrap ((nextE ep : Nat) : Int) = ((nextE ep : Nat) : Int) := by rw [wrap_u64']; omega
  obtain ⟨nx, hnx⟩ : ∃ nx, nextE ep = nx := ⟨_, rfl⟩
  rw [hnx] at hN HF hnl hend HP HPU hz
  clear hnx
  generalize fst0 D nx = a at *
  obtain ⟨ao, c, rfl⟩ := h.sl
  have hf' : ¬ ((hlf D : Int) - 0) < 1 + (cnt s.size : Int) := by omega
  have hf2 : ¬ (hlf D : Int) < 1 + (cnt s.size : Int) := by omega
  obtain ⟨a2, ha2⟩ : ∃ a2 : Nat, (a : Int) + (hlf D : Int) = a2 := ⟨a + hlf D, by simp⟩
  have ha2' : a + hlf D = a2 := by omega
  rw [ha2'] at HP
  have hal : a ≤ 1000000 := by omega
  have hcl : cnt s.size ≤ 1000000 := by omega
  clear h hd hf hg ha2' hend
  go_enter Tryz.func58, Tryz.ntmps58
  go_wp2_with fail
  refine HE.out.mono ?_
  rintro e w2 ⟨rfl, b2⟩
  have B2 := Lib.hid b2
  have H2 := Lib.hid (H.out.below b2)
  have hg2 := (World.cell?_of_block (b2.block _ (lt_of_cell' G.out))).trans G.out
  clear b2 G
  rcases hN with ⟨hN, hX⟩ | ⟨hN, hX⟩
  focus
    have hN' : ((ep : Int) == 2147483647) = true := by rw [beq_iff_eq]; exact hN
    subst hX
    clear hN
    go_wp2_with (first
      | (refine (HH.out _).mono ?_; rintro e w3 ⟨rfl, rfl⟩)
      | (refine (HF.out _).mono ?_; rintro e w4 ⟨rfl, rfl⟩))
    clear hN'
  rotate_left
  focus
    have hN' : ((ep : Int) == 2147483647) = false := by rw [beq_eq_false_iff_ne]; exact hN
    have hX' : (ep : Int) + 1 = nx := by omega
    clear hN hX
    go_wp2_with (first
      | (refine (HH.out _).mono ?_; rintro e w3 ⟨rfl, rfl⟩)
      | (refine (HF.out _).mono ?_; rintro e w4 ⟨rfl, rfl⟩))
    clear hN' hX'
  all_goals
    go_loopw [11, 12, 13] (fun uv ov iv wr => (uv = .int .i64 0 ∧ ov = .slice ao D.now.length c ∧ iv = .int .i64 0 ∧ wr = w4) ∨ (∃ uu : Int, uv = .int .i64 uu ∧ iv = .int .i64 1 ∧ Hid (BksAt wr ov D1) ∧ Hid (Below w.heap.size w wr))) (fun _ _ iv _ => 1 - (intOf iv).toNat)
    case atStart => exact .inl ⟨rfl, rfl, rfl, rfl⟩
    case round =>
      rcases hrel with ⟨rfl, rfl, rfl, hw⟩ | ⟨uu, rfl, rfl, hb, hB⟩
      · subst hw
        go_wp2_with (refine (HB.out _).mono ?_; rintro e w5 ⟨rfl, rfl⟩)
        refine (HP.out _ H2.out).mono ?_
        rintro e w6 ⟨v6, rfl, k6, f6, b6⟩
        have B6 := Lib.hid (B2.out.trans (b6.mono B2.out.size))
        have K6 := Lib.hid k6
        have hg6 := (World.cell?_of_block (b6.block _ (lt_of_cell' hg2))).trans hg2
        obtain ⟨ao6, c6, rfl⟩ := k6.sl
        clear b6 k6 f6 hg2
        go_wp2_with (refine (HB.out _).mono ?_; rintro e w7 ⟨rfl, rfl⟩)
        go_roundw
        case rel => exact .inr ⟨_, rfl, by go_num, K6.out, B6.out⟩
        case measure => simp [intOf]
      · obtain ⟨ao7, c7, rfl⟩ := hb.out.sl
        clear hg2 H2 B2
        go_wp2_with fail
        refine (HPU.out _).mono ?_
        rintro e w8 ⟨rfl, b8⟩
        have B8 := Lib.hid (hB.out.trans (b8.mono hB.out.size))
        have hld := HLD.out
        have HW := Lib.hid (Rwith_dev _ D1 0 rt w8 (hb.out.below b8) (by omega) (by omega) HRL.out)
        clear b8 hld
        go_wp2_with fail
        refine HW.out.mono ?_
        rintro e w9 ⟨v9, rfl, k9, f9, b9⟩
        have B9 := Lib.hid (B8.out.trans (b9.mono B8.out.size))
        have K9 := Lib.hid (k9.now HEQ.out.symm)
        have F9 := Lib.hid f9
        obtain ⟨ao9, c9, rfl⟩ := k9.sl
        clear k9 f9 b9
        go_wp2_with fail
        go_ret2
        exact ⟨_, rfl, K9.out, fun k hk => ⟨Nat.le_trans B8.out.size (F9.out k hk).1, (F9.out k hk).2⟩, B9.out⟩
end Go.Proofs.YtjflcpkmoamijaaGreatDoor
