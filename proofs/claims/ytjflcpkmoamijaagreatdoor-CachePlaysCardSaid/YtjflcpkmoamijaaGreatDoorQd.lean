import Derived.Test.YtjflcpkmoamijaaGreatDoorQc
import Derived.Test.YtjflcpkmoamijaaGreatDoorRf2
namespace Go.Proofs.YtjflcpkmoamijaaGreatDoor
open Go.RowKit
set_option linter.unusedVariables false
set_option linter.unusedSimpArgs false
set_option linter.unnecessarySimpa false

/-! ### The reference's writers of records -/
def Fresh (w : World) (v : Value) (w' : World) : Prop := ∀ k, v.ownBlock = some k → w.heap.size ≤ k ∧ k < w'.heap.size
theorem Rwith_dev (v : Value) (D : Dev) (i : Nat) (s : ByteArray) (w : World) (h : BksAt w v D) (hl : D.now.length ≤ 65536) (hi : i ≤ 1000000) (hs : s.size ≤ 64) :
    Calls Tryz.prog 52 #[v, .int .i64 i, .string s] w fun e w' => ∃ v', e = .returned v' ∧ BksAt w' v' (D.write i s) ∧ Fresh w v' w' ∧ Below w.heap.size w w' := by
  refine (Rwith_any v (D.now.map bs) i s w h (by simp; omega) hi hs).mono ?_
  rintro e w' ⟨v', rfl, o, b⟩
  refine ⟨v', rfl, ?_, fun k hk => own_base' o hk, b⟩
  have := own_strs o
  unfold BksAt
  have e1 : (D.write i s).now.map bs = (D.now.map bs).set i (bs (padB s)) := by simp [Dev.write, List.map_set]
  rw [e1]
  exact this
theorem RRecords_short (v : Value) (n : Nat) (w : World) (hv : ∃ ao c, v = .slice ao n c) (hn : n < 5) :
    Calls Tryz.prog 54 #[v] w fun e w' => e = .returned (.tuple #[.slice none 0 0, .int .i64 12]) ∧ w' = w := by
  obtain ⟨ao, c, rfl⟩ := hv
  have hn' : (n : Int) < 5 := by omega
  go_enter Tryz.func54, Tryz.ntmps54
  go_wp2_with fail
  go_ret2
  exact ⟨rfl, rfl⟩
set_option maxHeartbeats 1000000 in
set_option maxRecDepth 100000 in
theorem RRecords_any (v : Value) {D : Dev} {ep u : Nat} {l : List ByteArray} (w : World) (h : BksAt w v D) (hd : Rd D ep u l) :
    Calls Tryz.prog 54 #[v] w fun e w' => ∃ vl, e = .returned (.tuple #[vl, .int .i64 0]) ∧ StrsAt w' vl l ∧ Below w.heap.size w w' := by
  have HS := Lib.hid (Rscan_any v w h hd)
  have h5 : ¬ (D.now.length : Int) < 5 := by have := hd.h5; omega
  obtain ⟨ao, c, rfl⟩ := h.sl
  clear h hd
  go_enter Tryz.func54, Tryz.ntmps54
  go_wp2_with fail
  refine HS.out.mono ?_
  rintro e w2 ⟨vl, rfl, o2, b2⟩
  obtain ⟨ao2, cp2, rfl⟩ := own_slice o2
  have B3 := Lib.hid (b2.alloc b2.size (.cells #[.slice ao2 l.length cp2, .int .i64 u, .int .i64 0] 138))
  have O3 := Lib.hid ((Fr.of_below ((Below.refl w2.heap.size w2).alloc (Nat.le_refl _) (.cells #[.slice ao2 l.length cp2, .int .i64 u, .int .i64 0] 138)) Nowhere).owns o2 (fun _ _ h => h))
  have g3 := heap_alloc_new w2 (.cells #[.slice ao2 l.length cp2, .int .i64 u, .int .i64 0] 138)
  clear o2 b2
  go_wp2_with fail
  generalize w2.alloc (.cells #[.slice ao2 l.length cp2, .int .i64 u, .int .i64 0] 138) = w3 at *
  have c0 : w3.cell? ⟨w2.heap.size, 0, none⟩ = some (.slice ao2 l.length cp2) := cell_of_row w3 _ 0 _ _ _ g3
  have c2 : w3.cell? ⟨w2.heap.size, 2, none⟩ = some (.int .i64 0) := cell_of_row w3 _ 2 _ _ _ g3
  clear g3
  go_quiet (fail)
  go_wp2_with fail
  go_ret2
  exact ⟨_, rfl, own_strs ((Fr.of_below (below_drewN (Below.refl w3.heap.size w3) nq) Nowhere).owns O3.out (fun _ _ h => h)), below_drewN B3.out nq⟩
theorem padS_len (s : ByteArray) : s.size ≤ 64 → (padB s).length = 64 := by
  intro h
  unfold padB
  rw [List.length_append, List.length_replicate]
  have : s.data.toList.length = s.size := Array.length_toList
  omega
set_option maxHeartbeats 1000000 in
set_option maxRecDepth 100000 in
theorem Rput_any (v : Value) (D : Dev) (a en : Nat) (s : ByteArray) (w : World) (h : BksAt w v D) (ht : D.now.length ≤ 65536) (ha : a + 1 + cnt s.size ≤ D.now.length) (hen : en ≤ 1000000) :
    Calls Tryz.prog 98 #[v, .int .i64 a, .int .i64 en, .string s] w fun e w' => ∃ v', e = .returned v' ∧ BksAt w' v' (wN D (recW a s (if a + 1 + cnt s.size < en then [(a + 1 + cnt s.size, ⟨#[]⟩)] else []))) ∧ Fresh w v' w' ∧ Below w.heap.size w w' := by
  have hcnt : cnt s.size ≤ 65536 := by omega
  have hsz : s.size ≤ 4194304 := by unfold cnt at hcnt; omega
  have H := Lib.hid h
  obtain ⟨ao, c, rfl⟩ := h.sl
  have hz : IntKind.u64.wrap (s.size : Int) = ((s.size : Nat) : Int) := by rw [wrap_u64']; omega
  obtain ⟨an, han⟩ : ∃ an : Nat, (a : Int) + 1 + (cnt s.size : Int) = an := ⟨a + 1 + cnt s.size, by simp⟩
  have HAN : Hid (a + 1 + cnt s.size = an) := by show _ = _; omega
  have hal : a + 1 ≤ D.now.length := by omega
  have han1 : an ≤ 65536 := by omega
  rw [HAN.out]
  obtain ⟨tl, htl⟩ : ∃ tl, (if an < en then [(an, (⟨#[]⟩ : ByteArray))] else []) = tl := ⟨_, rfl⟩
  have HTL := Lib.hid htl
  rw [htl]
  obtain ⟨DR, hDR⟩ : ∃ DR, wN D (recW a s tl) = DR := ⟨_, rfl⟩
  have HDR := Lib.hid hDR
  rw [hDR]
  clear h htl hDR
  go_enter Tryz.func98, Tryz.ntmps98
  go_wp2_with (refine (Rblocks_any s.size _ (by omega)).mono ?_; rintro e w2 ⟨rfl, rfl⟩)
  go_loopw [0, 10] (fun bv iv wr => ∃ (i : Nat), iv = .int .i64 i ∧ i ≤ cnt s.size ∧ Hid (BksAt wr bv (wN D ((bodyW a s).take i))) ∧ Hid (Below w2.heap.size w2 wr)) (fun _ iv _ => cnt s.size - (intOf iv).toNat)
  case atStart => exact ⟨0, rfl, by omega, H.out, Below.refl _ _⟩
  case round =>
    obtain ⟨i, rfl, hi, hb, hB⟩ := hrel
    obtain ⟨ao2, c2, rfl⟩ := hb.out.sl
    by_cases hic : i < cnt s.size
    · have hic' : (i : Int) < (cnt s.size : Int) := by omega
      have HX : Hid (wN D ((bodyW a s).take (i + 1)) = (wN D ((bodyW a s).take i)).write (a + 1 + i) (s.extract (i * 64) (min s.size ((i + 1) * 64)))) := by
        show _ = _
        rw [bodyW_succ a s i hic, wN_app]; rfl
      have hlD := wN_len D ((bodyW a s).take i)
      generalize wN D ((bodyW a s).take i) = Di at *
      obtain ⟨lo, hlo⟩ : ∃ lo : Nat, (i : Int) * 64 = lo := ⟨i * 64, by simp⟩
      obtain ⟨h1, hh1⟩ : ∃ h1 : Nat, ((i : Int) + 1) * 64 = h1 := ⟨(i + 1) * 64, by simp⟩
      obtain ⟨hi2, hhi2⟩ : ∃ hi2 : Nat, min (s.size : Int) (h1 : Int) = hi2 := ⟨min s.size h1, by omega⟩
      have hlh : lo ≤ hi2 := by unfold cnt at hic; omega
      have hhs : hi2 ≤ s.size := by omega
      obtain ⟨ai, hai⟩ : ∃ ai : Nat, (a : Int) + 1 + i = ai := ⟨a + 1 + i, by simp⟩
      have HEQ : Hid (Di.write (a + 1 + i) (s.extract (i * 64) (min s.size ((i + 1) * 64))) = Di.write ai (s.extract lo hi2)) := by
        show _ = _
        have e1 : a + 1 + i = ai := by omega
        have e2 : i * 64 = lo := by omega
        have e3 : min s.size ((i + 1) * 64) = hi2 := by omega
        rw [e1, e2, e3]
      have hsl : (s.extract lo hi2).size ≤ 64 := by simp only [ByteArray.size_extract]; omega
      have HW := Lib.hid (Rwith_dev _ Di ai (s.extract lo hi2) wr hb.out (by omega) (by omega) hsl)
      have HLD := Lib.hid hlD
      clear hsl hlD
      go_wp2_with fail
      have := HLD.out
      refine (HW.out).mono ?_
      rintro e w3 ⟨v3, rfl, k3, f3, b3⟩
      have K3 := Lib.hid k3
      have B3 := Lib.hid (hB.out.trans (b3.mono hB.out.size))
      clear k3 f3 b3
      go_wp2_with fail
      go_roundw
      case rel => exact ⟨i + 1, by go_num, by omega, by show BksAt _ _ _; rw [HX.out, HEQ.out]; exact K3.out, B3.out⟩
      case measure => simp [intOf]; omega
    · have hic' : ¬ (i : Int) < (cnt s.size : Int) := by omega
      obtain rfl : i = cnt s.size := by omega
      have hfull : (bodyW a s).take (cnt s.size) = bodyW a s := List.take_of_length_le (by rw [bodyW_len]; omega)
      rw [hfull] at hb ⊢
      have hlD := wN_len D (bodyW a s)
      have HE : Hid (DR = (wN (wN D (bodyW a s)) tl).write a (headS s.size)) := by
        show _ = _
        rw [← HDR.out]
        unfold recW
        rw [wN_app, wN_app]; rfl
      have HHS : Hid (headS s.size = app ⟨#[1]⟩ (encU s.size)) := rfl
      have hhl : (headS s.size).size ≤ 64 := by
        rw [HHS.out, app_size]
        have := encU_len s.size
        have h1 : (⟨#[1]⟩ : ByteArray).size = 1 := rfl
        omega
      have HHL := Lib.hid hhl
      have HPU := Lib.hid (fun w => RPutUint_any ⟨#[1]⟩ s.size w (by omega) (by decide))
      rw [← HHS.out] at HPU
      clear hhl hfull HDR
      have HLD := Lib.hid hlD
      clear hlD
      generalize headS s.size = hd at *
      generalize wN D (bodyW a s) = D1 at *
      by_cases hlt : an < en
      · have hlt' : (an : Int) < (en : Int) := by omega
        rw [if_pos hlt] at HTL
        have hlD := HLD.out
        have HW := Lib.hid (Rwith_dev _ D1 an ⟨#[]⟩ wr hb.out (by omega) (by omega) (by decide))
        clear hlD
        go_wp2_with fail
        refine HW.out.mono ?_
        rintro e w3 ⟨v3, rfl, k3, f3, b3⟩
        have B3 := Lib.hid (hB.out.trans (b3.mono hB.out.size))
        have hlD : (D1.write an ⟨#[]⟩).now.length = D1.now.length := by simp [Dev.write]
        have hlD2 := HLD.out
        have HWT : Hid (wN D1 tl = D1.write an ⟨#[]⟩) := by show _ = _; rw [← HTL.out]; rfl
        have HE2 : Hid (DR = (D1.write an ⟨#[]⟩).write a hd) := by show _ = _; rw [HE.out, HWT.out]
        obtain ⟨ao3, c3, rfl⟩ := k3.sl
        have K3 := Lib.hid k3
        have HLD2 := Lib.hid (hlD.trans hlD2)
        clear k3 f3 b3 hlD hlD2 HWT HTL HE
        generalize D1.write an ⟨#[]⟩ = D2 at *
        go_wp2_with fail
        refine (HPU.out _).mono ?_
        rintro e w4 ⟨rfl, b4⟩
        have B4 := Lib.hid (B3.out.trans (b4.mono B3.out.size))
        have hl2 := HLD2.out
        have HW2 := Lib.hid (Rwith_dev _ D2 a hd w4 (K3.out.below b4) (by omega) (by omega) HHL.out)
        clear b4 hl2
        go_wp2_with fail
        refine HW2.out.mono ?_
        rintro e w5 ⟨v5, rfl, k5, f5, b5⟩
        have B5 := Lib.hid (B4.out.trans (b5.mono B4.out.size))
        have K5 := Lib.hid k5
        have F5 := Lib.hid f5
        clear k5 f5 b5
        go_wp2_with fail
        go_ret
        exact ⟨_, rfl, HE2.out ▸ K5.out, fun k hk => ⟨Nat.le_trans B4.out.size (F5.out k hk).1, (F5.out k hk).2⟩, B5.out⟩
      · have hlt' : ¬ (an : Int) < (en : Int) := by omega
        rw [if_neg hlt] at HTL
        have HWT : Hid (wN D1 tl = D1) := by show _ = _; rw [← HTL.out]; rfl
        have HE2 : Hid (DR = D1.write a hd) := by show _ = _; rw [HE.out, HWT.out]
        clear HWT HTL HE
        go_wp2_with fail
        refine (HPU.out _).mono ?_
        rintro e w4 ⟨rfl, b4⟩
        have B4 := Lib.hid (hB.out.trans (b4.mono hB.out.size))
        have hl2 := HLD.out
        have HW2 := Lib.hid (Rwith_dev _ D1 a hd w4 (hb.out.below b4) (by omega) (by omega) HHL.out)
        clear b4 hl2
        go_wp2_with fail
        refine HW2.out.mono ?_
        rintro e w5 ⟨v5, rfl, k5, f5, b5⟩
        have B5 := Lib.hid (B4.out.trans (b5.mono B4.out.size))
        have K5 := Lib.hid k5
        have F5 := Lib.hid f5
        clear k5 f5 b5
        go_wp2_with fail
        go_ret
        exact ⟨_, rfl, HE2.out ▸ K5.out, fun k hk => ⟨Nat.le_trans B4.out.size (F5.out k hk).1, (F5.out k hk).2⟩, B5.out⟩
end Go.Proofs.YtjflcpkmoamijaaGreatDoor
