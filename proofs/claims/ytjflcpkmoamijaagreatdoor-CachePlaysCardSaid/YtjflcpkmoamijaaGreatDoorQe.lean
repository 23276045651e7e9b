import Derived.Test.YtjflcpkmoamijaaGreatDoorQd
namespace Go.Proofs.YtjflcpkmoamijaaGreatDoor
open Go.RowKit
set_option linter.unusedVariables false
set_option linter.unusedSimpArgs false
set_option linter.unnecessarySimpa false

/-! ### The reference's Append and Reset -/
theorem BksAt.now {w : World} {v : Value} {D D' : Dev} (h : BksAt w v D) (e : D'.now = D.now) : BksAt w v D' := by
  unfold BksAt at h ⊢
  rw [e]; exact h
set_option maxHeartbeats 1000000 in
set_option maxRecDepth 100000 in
theorem RAppend_full (v : Value) {D : Dev} {ep u : Nat} {l : List ByteArray} (s : ByteArray) (w : World) (h : BksAt w v D) (hd : Rd D ep u l) (hs : s.size ≤ 140737488351232) (hf : hlf D < u + 1 + cnt s.size) :
    Calls Tryz.prog 56 #[v, .string s] w fun e w' => e = .returned (.tuple #[v, .int .i64 20]) ∧ Below w.heap.size w w' := by
  have hh := hlf_half hd.h5 hd.ht
  have HE := Lib.hid (REpoch_any v w h hd)
  have HS := Lib.hid (fun w h => Rscan_any v w h hd)
  have HH : Hid (∀ w, Calls Tryz.prog 95 #[v] w fun e w' => e = .returned (.int .i64 (hlf D)) ∧ w' = w) := fun w => RHalf_any _ D.now.length w h.sl (by have := hd.ht; omega) (by have := hd.h5; omega)
  have H := Lib.hid h
  have HB := Lib.hid (fun w => Rblocks_any s.size w hs)
  have hup := (parse_size hd.p).1
  obtain ⟨ao, c, rfl⟩ := h.sl
  have hf' : ((hlf D : Int) - (u : Int)) < 1 + (cnt s.size : Int) := by omega
  have hcc : cnt s.size ≤ 140737488351232 := by unfold cnt; omega
  have huu : u ≤ 1000000 := by omega
  clear h hd hf hup
  go_enter Tryz.func56, Tryz.ntmps56
  go_wp2_with fail
  refine HE.out.mono ?_
  rintro e w2 ⟨rfl, b2⟩
  have B2 := Lib.hid b2
  have H2 := Lib.hid (H.out.below b2)
  clear b2
  go_wp2_with (refine (HH.out _).mono ?_; rintro e w3 ⟨rfl, rfl⟩)
  refine (HS.out _ H2.out).mono ?_
  rintro e w4 ⟨vl, rfl, o4, b4⟩
  obtain ⟨ao4, c4, rfl⟩ := own_slice o4
  have B4 := Lib.hid (B2.out.trans (b4.mono B2.out.size))
  have hfld : (Instr.field 138 (.agg #[.slice ao4 l.length c4, .int .i64 u, .int .i64 0]) 1).run Tryz.prog w4 = .ok (.int .i64 u) w4 := by kernel_rfl
  clear b4 o4
  go_wp2_with (refine (HB.out _).mono ?_; rintro e w5 ⟨rfl, rfl⟩)
  go_ret2
  exact ⟨rfl, B4.out⟩
set_option maxHeartbeats 1000000 in
set_option maxRecDepth 100000 in
theorem RAppend_any (v : Value) {D : Dev} {ep u : Nat} {l : List ByteArray} (s : ByteArray) (w : World) (h : BksAt w v D) (hd : Rd D ep u l) (hs : s.size ≤ 140737488351232) (hf : ¬ hlf D < u + 1 + cnt s.size) :
    Calls Tryz.prog 56 #[v, .string s] w fun e w' => ∃ v', e = .returned (.tuple #[v', .int .i64 0]) ∧ BksAt w' v' (wN D (appW D ep u s)) ∧ Fresh w v' w' ∧ Below w.heap.size w w' := by
  have hh := hlf_half hd.h5 hd.ht
  have ht := hd.ht
  have hend := fst0_end D ep hh.1
  have hep := numJ_le2 (parse_iff.1 hd.p).2.1
  have HE := Lib.hid (REpoch_any v w h hd)
  have HS := Lib.hid (fun w h => Rscan_any v w h hd)
  have HH : Hid (∀ w, Calls Tryz.prog 95 #[v] w fun e w' => e = .returned (.int .i64 (hlf D)) ∧ w' = w) := fun w => RHalf_any _ D.now.length w h.sl (by have := hd.ht; omega) (by have := hd.h5; omega)
  have HF := Lib.hid (fun w => Rfirst_any v D ep w h.sl (by omega) (by have := hd.h5; omega) hep)
  have H := Lib.hid h
  have HB := Lib.hid (fun w => Rblocks_any s.size w hs)
  have hW : appW D ep u s = recW (fst0 D ep + u) s (if fst0 D ep + u + 1 + cnt s.size < fst0 D ep + hlf D then [(fst0 D ep + u + 1 + cnt s.size, ⟨#[]⟩)] else []) := by
    unfold appW recW
    by_cases hx : u + 1 + cnt s.size < hlf D
    · rw [if_pos hx, if_pos (by omega)]
    · rw [if_neg hx, if_neg (by omega)]
  rw [hW]
  have HP := Lib.hid (fun w h => Rput_any v D (fst0 D ep + u) (fst0 D ep + hlf D) s w h ht (by omega) (by omega))
  generalize wN D (recW (fst0 D ep + u) s (if fst0 D ep + u + 1 + cnt s.size < fst0 D ep + hlf D then [(fst0 D ep + u + 1 + cnt s.size, ⟨#[]⟩)] else [])) = DR at *
  obtain ⟨ao, c, rfl⟩ := h.sl
  have hf' : ¬ ((hlf D : Int) - (u : Int)) < 1 + (cnt s.size : Int) := by omega
  have hcc : cnt s.size ≤ 140737488351232 := by unfold cnt; omega
  have huu : u ≤ 1000000 := by omega
  generalize fst0 D ep = a at *
  have hau : a + u ≤ 1000000 := by omega
  obtain ⟨a1, ha1⟩ : ∃ a1 : Nat, (a : Int) + (u : Int) = a1 := ⟨a + u, by simp⟩
  obtain ⟨a2, ha2⟩ : ∃ a2 : Nat, (a : Int) + (hlf D : Int) = a2 := ⟨a + hlf D, by simp⟩
  have ha1' : a + u = a1 := by omega
  have ha2' : a + hlf D = a2 := by omega
  rw [ha1', ha2'] at HP
  clear h hd hf hW ha1' ha2'
  go_enter Tryz.func56, Tryz.ntmps56
  go_wp2_with fail
  refine HE.out.mono ?_
  rintro e w2 ⟨rfl, b2⟩
  have B2 := Lib.hid b2
  have H2 := Lib.hid (H.out.below b2)
  clear b2
  go_wp2_with (refine (HH.out _).mono ?_; rintro e w3 ⟨rfl, rfl⟩)
  refine (HS.out _ H2.out).mono ?_
  rintro e w4 ⟨vl, rfl, o4, b4⟩
  obtain ⟨ao4, c4, rfl⟩ := own_slice o4
  have B4 := Lib.hid (B2.out.trans (b4.mono B2.out.size))
  have H4 := Lib.hid (H2.out.below b4)
  have hfld : (Instr.field 138 (.agg #[.slice ao4 l.length c4, .int .i64 u, .int .i64 0]) 1).run Tryz.prog w4 = .ok (.int .i64 u) w4 := by kernel_rfl
  clear b4 o4
  go_wp2_with (first
    | (refine (HB.out _).mono ?_; rintro e w5 ⟨rfl, rfl⟩)
    | (refine (HF.out _).mono ?_; rintro e w5 ⟨rfl, rfl⟩))
  refine (HP.out _ H4.out).mono ?_
  rintro e w6 ⟨v6, rfl, k6, f6, b6⟩
  have B6 := Lib.hid (B4.out.trans (b6.mono B4.out.size))
  have K6 := Lib.hid k6
  have F6 := Lib.hid f6
  obtain ⟨ao6, c6, rfl⟩ := k6.sl
  clear b6 k6 f6
  go_wp2_with fail
  go_ret2
  exact ⟨_, rfl, K6.out, fun k hk => ⟨Nat.le_trans B4.out.size (F6.out k hk).1, (F6.out k hk).2⟩, B6.out⟩
end Go.Proofs.YtjflcpkmoamijaaGreatDoor
