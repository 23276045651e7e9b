import Derived.Test.YtjflcpkmoamijaaGreatDoorQj
import Derived.Test.YtjflcpkmoamijaaGreatDoorCm
namespace Go.Proofs.YtjflcpkmoamijaaGreatDoor
open Go.RowKit
set_option linter.unusedVariables false
set_option linter.unusedSimpArgs false
set_option linter.unnecessarySimpa false

theorem fresh_bks (nb : Nat) : ((Dev.fresh nb).format.now.map bs) = ((List.replicate nb (bs zeroBlk)).set 1 (bs (padB ⟨#[]⟩))).set 0 (bs (padB (rootS 0))) := by
  simp [Dev.format, Dev.write, Dev.fresh, List.map_set]
set_option maxHeartbeats 4000000 in
set_option maxRecDepth 100000 in
theorem plays_any (blocks : Int) (v : Value) (L : List Opv) (w : World) (h : OpsAt w v L) :
    Calls Tryz.prog 4 #[.int .i64 blocks, v] w fun e w' => e = .returned (.bool true) ∧ Below w.heap.size w w' := by
  obtain ⟨ao, c, rfl, hne⟩ := h.sl
  have H := Lib.hid h
  have HNE := Lib.hid hne
  clear h hne
  go_enter Tryz.func4, Tryz.ntmps4
  go_wp2_with fail
  refine (few_any blocks _ L w H.out).mono ?_
  rintro e w ⟨β, rfl, rfl, hfew⟩
  have HFEW := Lib.hid hfew
  clear hfew
  cases β with
  | false =>
    go_wp2_with (go_at_call 9; refine (lives_any _).mono ?_; rintro e w5 ⟨rfl, b5⟩; have B5 := Lib.hid b5; clear b5)
    go_ret
    exact ⟨rfl, B5.out⟩
  | true =>
    have hF := HFEW.out rfl
    obtain ⟨hb40, hL8, hl⟩ := hF
    have HL := Lib.hid hl
    clear hl HFEW
    by_cases h1 : blocks < 1
    · have HN := Lib.hid (New_none blocks w (.inl h1))
      go_wp2_with fail
      refine HN.out.mono ?_
      rintro e w2 ⟨rfl, rfl⟩
      go_wp2_with (go_at_call 9; refine (lives_any _).mono ?_; rintro e w5 ⟨rfl, b5⟩; have B5 := Lib.hid b5; clear b5)
      go_ret
      exact ⟨rfl, B5.out⟩
    · obtain ⟨nb, rfl⟩ : ∃ nb : Nat, blocks = nb := ⟨blocks.toNat, by omega⟩
      have hnb : 1 ≤ nb ∧ nb ≤ 40 := by omega
      have HN := Lib.hid (New_any nb w (by omega) (by omega))
      have HBK := Lib.hid (fun w => RBlank_any nb w (by omega))
      have HFB := Lib.hid (fresh_bks nb)
      have hrl : (List.replicate nb (bs zeroBlk)).length = nb := List.length_replicate
      have HRL := Lib.hid hrl
      clear hrl
      generalize List.replicate nb (bs zeroBlk) = L0 at *
      go_wp2_with fail
      refine HN.out.mono ?_
      rintro e w2 ⟨r, rfl, d2, b2, f2⟩
      have D2 := Lib.hid d2
      have B2 := Lib.hid b2
      have F2 := Lib.hid f2
      clear d2 b2 f2 HN h1
      go_wp2_with fail
      refine (HBK.out w2).mono ?_
      rintro e w3 ⟨v3, rfl, o3, b3⟩
      have S3 := Lib.hid (own_strs o3)
      have D3 := Lib.hid (D2.out.below b3)
      have B3 := Lib.hid (B2.out.trans (b3.mono B2.out.size))
      have LE3 : Hid (w2.heap.size ≤ w3.heap.size) := b3.size
      obtain ⟨ao3, c3, rfl⟩ := own_slice o3
      clear b3 o3 HBK
      by_cases h5 : nb < 5
      · have HRF := Lib.hid (RFormat_short (.slice ao3 L0.length c3) L0.length w3 ⟨_, _, rfl⟩ (by rw [HRL.out]; exact h5))
        have hlen : (Dev.fresh nb).now.length < 5 := by simp [Dev.fresh]; omega
        have HCF := Lib.hid (CFormat_short r _ w3 D3.out hlen)
        have HCO := Lib.hid (COpen_short r _ w3 D3.out hlen)
        have HRO := Lib.hid (fun w => ROpen_short (.slice ao3 L0.length c3) L0.length w ⟨_, _, rfl⟩ (by rw [HRL.out]; exact h5))
        clear hlen
        go_wp2_with fail
        refine HRF.out.mono ?_
        rintro e w4 ⟨rfl, rfl⟩
        go_wp2_with fail
        refine HCF.out.mono ?_
        rintro e w4 ⟨rfl, rfl⟩
        go_wp2_with fail
        refine HCO.out.mono ?_
        rintro e w4 ⟨rfl, b4⟩
        have B4 := Lib.hid (B3.out.trans (b4.mono B3.out.size))
        clear b4
        go_wp2_with fail
        refine (HRO.out w4).mono ?_
        rintro e w5 ⟨rfl, b5⟩
        have B5 := Lib.hid (B4.out.trans (b5.mono B4.out.size))
        clear b5
        have b6 := B5.out.alloc B5.out.size (.cells #[.slice none 0 0, .int .i64 0, .slice none 0 0] 40)
        have B6 := Lib.hid b6
        clear b6
        go_wp2_with fail
        generalize w5.alloc (.cells #[.slice none 0 0, .int .i64 0, .slice none 0 0] 40) = w6 at *
        go_loopw [8, 12] (fun cv iv wr => cv = .pointer none ∧ iv = .int .i64 0 ∧ wr = w6) (fun _ _ _ => 0)
        case atStart => exact ⟨rfl, rfl, rfl⟩
        case round =>
          obtain ⟨rfl, rfl, hw⟩ := hrel
          subst hw
          by_cases hL0 : (0 : Int) < (L.length : Int)
          · go_wp2_with (go_at_call 9; refine (lives_any _).mono ?_; rintro e w9 ⟨rfl, b9⟩; have B9 := Lib.hid (B6.out.trans (b9.mono B6.out.size)); clear b9)
            go_ret
            exact ⟨rfl, B9.out⟩
          · go_wp2_with (go_at_call 9; refine (lives_any _).mono ?_; rintro e w9 ⟨rfl, b9⟩; have B9 := Lib.hid (B6.out.trans (b9.mono B6.out.size)); clear b9)
            go_ret
            exact ⟨rfl, B9.out⟩
      · have h5n : 5 ≤ nb := by omega
        have hL0l : L0.length = nb := HRL.out
        have HRF := Lib.hid (RFormat_any (.slice ao3 L0.length c3) L0 w3 S3.out (by omega) (by omega))
        clear hL0l
        have HCF : Hid (∀ w, DevIs w r (Dev.fresh nb) → Calls Tryz.prog 20 #[.pointer (some ⟨r.b, 0, none⟩)] w (FPost r 0 (Dev.fresh nb).format w)) := fun w h => CFormat_any r _ w h rfl (by simp [Dev.fresh]; omega) (by simp [Dev.fresh])
        have HPA := Lib.hid (format_parse nb h5n (by omega))
        have HGO := Lib.hid (start_good nb h5n (by omega))
        have HNL : Hid ((Dev.fresh nb).format.now.length = nb) := by show _ = _; simp [Dev.format, Dev.write, Dev.fresh]
        have HLG : Hid ((Dev.fresh nb).format.log.length = 2) := rfl
        have HLI : Hid ((Dev.fresh nb).format.lim = false) := rfl
        generalize Dev.fresh nb = D0 at *
        go_wp2_with fail
        refine HRF.out.mono ?_
        rintro e w4 ⟨v4, rfl, b4, s4, f4⟩
        have K4 : BksAt w4 v4 D0.format := by unfold BksAt; rw [HFB.out]; exact s4
        obtain ⟨ao4, c4, rfl⟩ := K4.sl
        have KK4 := Lib.hid K4
        have F4 := Lib.hid f4
        have D4 := Lib.hid (D3.out.below b4)
        have B4 := Lib.hid (B3.out.trans (b4.mono B3.out.size))
        have LE4 : Hid (w3.heap.size ≤ w4.heap.size) := b4.size
        clear b4 s4 f4 K4 HRF S3 B3 HFB HRL
        go_wp2_with fail
        refine (HCF.out w4 D4.out).mono ?_
        rintro e w5 ⟨rfl, r5, d5, k5⟩
        have hrb := k5.b
        have hft : ∀ k, r.foot k → k < w2.heap.size := fun k hk => D2.out.lt hk
        have R5 : Hid (∀ k, r5.foot k → w.heap.size ≤ k ∧ (k < w2.heap.size ∨ w4.heap.size ≤ k)) := by
          intro k hk
          by_cases h : k < w4.heap.size
          · have := k5.sub k h hk
            exact ⟨F2.out k this, .inl (hft k this)⟩
          · have := B4.out.size
            exact ⟨by omega, .inr (by omega)⟩
        have B5 : Hid (Below w.heap.size w w5) := B4.out.trans (k5.fr.below B4.out.size (fun i hi => F2.out i hi))
        have K5 : Hid (BksAt w5 (.slice ao4 D0.format.now.length c4) D0.format) := KK4.out.fr k5.fr (fun i hi hf => by have h1 := F4.out i hi; have h2 := hft i hf; have h3 := LE3.out; omega)
        have D5 := Lib.hid d5
        have LE5 : Hid (w4.heap.size ≤ w5.heap.size) := k5.fr.size
        clear d5 k5 hft KK4 D4 B4 D3 B2 HCF
        go_wp2_with fail
        rw [← hrb]
        clear hrb
        refine (COpen_any r5 D0.format w5 D5.out (by rw [HNL.out]; exact h5n)).mono ?_
        rintro e w6 ⟨b6, h6⟩
        rw [HPA.out] at h6
        simp only [loadL] at h6
        obtain ⟨cb, jb, mb, k, vr, rfl, hcb, hjb, hmb, hk, hc⟩ := h6
        have C6 : Hid (CIn w6 w.heap.size r5 cb jb mb k vr ⟨⟨D0.format, 0, 0, []⟩, -1, []⟩) := ⟨D5.out.below b6, ⟨hc.c, hc.j.base B5.out.size, hc.m, hc.so, hc.fi⟩⟩
        have B6 := Lib.hid (B5.out.trans (b6.mono B5.out.size))
        have FT : Hid (∀ i, cfoot r5 cb jb mb vr i → w.heap.size ≤ i ∧ (i < w2.heap.size ∨ w4.heap.size ≤ i)) := by
          have hs := B5.out.size
          have h5 := LE5.out
          rintro i (hi | rfl | rfl | rfl | hi)
          · exact R5.out i hi
          · omega
          · omega
          · omega
          · have := (own_base' hc.j.hr hi).1; omega
        have L6 : Hid (Live w6 w.heap.size r5 cb jb mb k vr ⟨⟨D0.format, 0, 0, []⟩, -1, []⟩) := ⟨C6.out, fun i hi => (FT.out i hi).1, B6.out.size, HGO.out⟩
        have K6 := Lib.hid (K5.out.below b6)
        have LE6 : Hid (w5.heap.size ≤ w6.heap.size) := b6.size
        have HRO := Lib.hid (ROpen_any (.slice ao4 D0.format.now.length c4) w6 K6.out ⟨HPA.out, by rw [HNL.out]; exact h5n, by rw [HNL.out]; omega, D5.out.ok.n64⟩)
        clear hc b6 hcb hjb hmb C6 R5 K5 B5
        go_wp2_with fail
        refine HRO.out.mono ?_
        rintro e w7 ⟨tv, rfl, t7, b7⟩
        obtain ⟨aot, ct, rfl, _⟩ := t7.sl
        have L7 := Lib.hid (L6.out.below b7)
        have B7 := Lib.hid (B6.out.trans (b7.mono B6.out.size))
        have K7 := Lib.hid (K6.out.below b7)
        have T7 := Lib.hid t7
        have LE7 : Hid (w6.heap.size ≤ w7.heap.size) := b7.size
        clear b7 t7 L6 B6 K6 HRO
        have b8 := (Below.refl w7.heap.size w7).alloc (Nat.le_refl _) (.cells #[.slice ao4 D0.format.now.length c4, .int .i64 (-1), .slice aot 0 ct] 40)
        have hoff : ∀ i, (Value.slice ao4 D0.format.now.length c4).ownBlock = some i → Off (w7.alloc (.cells #[.slice ao4 D0.format.now.length c4, .int .i64 (-1), .slice aot 0 ct] 40)) cb jb mb r5 vr i ∧ i ≠ w7.heap.size := by
          intro i hi
          have h1 := F4.out i hi
          have h2 := LE3.out
          have h3 := LE5.out
          have h4 := LE6.out
          have h5 := LE7.out
          have h6 := b8.size
          refine ⟨⟨by omega, fun hf => ?_⟩, by omega⟩
          have := FT.out i hf
          omega
        have M8 : Hid (MAt (w7.alloc (.cells #[.slice ao4 D0.format.now.length c4, .int .i64 (-1), .slice aot 0 ct] 40)) cb jb mb r5 vr w7.heap.size (.slice ao4 D0.format.now.length c4) (-1) (.slice aot 0 ct) [] D0.format) :=
          ⟨RAt.new L7.out ⟨T7.out, fun h => absurd rfl h⟩ _ _, K7.out.below b8, fun i hi => (hoff i hi).1, fun i hi => (hoff i hi).2, fun h => absurd rfl h⟩
        have L8 := Lib.hid (L7.out.below b8)
        have B8 := Lib.hid (B7.out.trans (b8.mono B7.out.size))
        have HX0 : Hid ((⟨⟨D0.format, 0, 0, []⟩, -1, []⟩ : Cn).J.D.log.length = 2 ∧ (⟨⟨D0.format, 0, 0, []⟩, -1, []⟩ : Cn).J.D.now.length = nb ∧ (⟨⟨D0.format, 0, 0, []⟩, -1, []⟩ : Cn).T.length = 0 ∧ (⟨⟨D0.format, 0, 0, []⟩, -1, []⟩ : Cn).J.D.lim = false) := ⟨HLG.out, HNL.out, rfl, HLI.out⟩
        have HTB0 : Hid (w.heap.size ≤ w7.heap.size) := B7.out.size
        clear b8 hoff L7 B7 K7 T7 LE3 LE4 LE5 LE6 LE7 FT F4 D5 HPA HGO HNL HLG HLI F2 D2
        go_wp2_with fail
        obtain ⟨tb, htb⟩ : ∃ tb, w7.heap.size = tb := ⟨_, rfl⟩
        rw [htb] at M8 ⊢
        have HTB : Hid (w.heap.size ≤ tb) := by rw [← htb]; exact HTB0.out
        generalize w7.alloc (.cells #[.slice ao4 D0.format.now.length c4, .int .i64 (-1), .slice aot 0 ct] 40) = w8 at *
        clear htb
        go_loopw [8, 12] (fun cv iv wr => ∃ (i : Nat) (r2 : DRef) (cb jb mb n2 : Nat) (vr2 bv tv : Value) (C : Cn), cv = .pointer (some ⟨cb, 0, none⟩) ∧ iv = .int .i64 i ∧ i ≤ L.length ∧ r2.b = r5.b ∧ n2 ≤ 100000000 + 1000 * i ∧ Hid (Live wr w.heap.size r2 cb jb mb n2 vr2 C) ∧ Hid (Below w.heap.size w wr) ∧ Hid (MAt wr cb jb mb r2 vr2 tb bv C.ver tv C.T C.J.D) ∧ C.J.D.log.length ≤ 2 + i * nb ∧ Hid (C.J.D.now.length = nb) ∧ C.T.length ≤ 8 * i ∧ Hid (C.J.D.lim = false)) (fun _ iv _ => L.length - (intOf iv).toNat)
        case atStart => exact ⟨0, r5, cb, jb, mb, k, vr, _, _, ⟨⟨D0.format, 0, 0, []⟩, -1, []⟩, rfl, rfl, by omega, rfl, by omega, L8.out, B8.out, M8.out, by rw [HX0.out.1]; omega, HX0.out.2.1, by rw [HX0.out.2.2.1]; omega, HX0.out.2.2.2⟩
        case round =>
          clear L8 B8 M8 HX0
          obtain ⟨i, r2, cb, jb, mb, n2, vr2, bv, tv, C, rfl, rfl, hi, hrb2, hn2, hI, hB, hM, hlg, hnl, htl, hlm⟩ := hrel
          by_cases hic : i < L.length
          · have hic' : (i : Int) < (L.length : Int) := by omega
            have hinb : i * nb ≤ 8 * 40 := Nat.mul_le_mul (by omega) (by omega)
            obtain ⟨bo, bc, rfl⟩ := hM.out.k.sl
            obtain ⟨tto, tc, rfl, _⟩ := hM.out.ra.t.b.sl
            have sm := Lib.hid (same_any cb jb mb n2 C.ver C.T (.slice bo C.J.D.now.length bc) (.slice tto C.T.length tc) wr hI.out.ci.2.c hI.out.ci.2.m hI.out.g.tg.so hI.out.g.tg.fi (by omega) (by omega) hM.out.ra.t.b)
            have y0 := hM.out.ra.c0
            have y1 := hM.out.ra.c1
            have y2 := hM.out.ra.c2
            go_wp2_with fail
            refine sm.out.mono ?_
            rintro e w9 ⟨rfl, b9⟩
            have L9 := Lib.hid (hI.out.below b9)
            have B9 := Lib.hid (hB.out.trans (b9.mono hB.out.size))
            have M9 := Lib.hid (hM.out.move (CMove.below b9))
            clear sm y0 y1 y2 b9 hI hB hM
            obtain ⟨b, o, rfl, hbl⟩ := HNE.out (by intro h; subst h; simp at hic)
            have Or := Lib.hid (H.out.fr (Fr.of_below B9.out Nowhere) (fun _ _ h => h))
            have hx := range3 (Or.out.nth i hic)
            have hop := Or.out.op _ (List.getElem_mem hic)
            have hop0 := H.out.op _ (List.getElem_mem hic)
            have hll := HL.out _ (List.getElem_mem hic)
            generalize L[i] = x at *
            obtain ⟨k0, k1, k2⟩ := hx
            obtain ⟨xk, xver, xv, xl⟩ := x
            simp only at k0 k1 k2 hll
            have TX : Hid (TAt w9 cb jb mb r2 vr2 xv xl) := ⟨hop.b, fun h0 k hk => L9.out.old (hop0.lt h0 k hk)⟩
            have HXI : Hid (InInt xver) := hop.i
            have HLL := Lib.hid hll
            have hn3 : n2 ≤ 200000000 := by omega
            have hlog : C.J.D.log.length ≤ 500 := by omega
            have hTl : C.T.length ≤ 64 := by omega
            have G64 : Hid (∀ b ∈ C.J.D.now, b.length = 64) := L9.out.ci.1.ok.n64
            clear hop hop0 hll Or
            by_cases h0 : xk = 0
            focus
              subst h0
              go_wp2_with fail
              refine region_seq (fun w' => w'.cell? ⟨b, o + i * 3 + 1, none⟩ = some (.int .i64 xver) ∧ w'.cell? ⟨b, o + i * 3 + 2, none⟩ = some xv) []
                [(.p, 0), (.p, 1), (.p, 2), (.p, 3), (.p, 4), (.q, 5), (.p, 6), (.p, 7), (.p, 8), (.p, 9), (.q, 10), (.l, 11), (.p, 12)] (by kernel_rfl) (by kernel_rfl) (by kernel_rfl) (by kernel_rfl) (fun d v c a w h => by cases d <;> exact h) ?_
              have hS : w9.drew.cell? ⟨b, o + i * 3 + 1, none⟩ = some (.int .i64 xver) ∧ w9.drew.cell? ⟨b, o + i * 3 + 2, none⟩ = some xv := ⟨k1, k2⟩
              (refine seq_p (N := some 81) rfl rfl (by rfl) ?_ (fun w' => ?_) ?_
               rotate_left
               · go_simp
                 with_reducible rfl
               simp only [Act.put, List.setIfInBounds_toArray, List.set_cons_zero, List.set_cons_succ])
              (refine seq_p (N := some 82) rfl rfl (by rfl) ?_ (fun w' => ?_) ?_
               rotate_left
               · go_simp
                 with_reducible rfl
               simp only [Act.put, List.setIfInBounds_toArray, List.set_cons_zero, List.set_cons_succ])
              (refine seq_p (N := some 83) rfl rfl (by rfl) ?_ (fun w' => ?_) ?_
               rotate_left
               · go_simp
                 with_reducible rfl
               simp only [Act.put, List.setIfInBounds_toArray, List.set_cons_zero, List.set_cons_succ])
              (refine seq_p (N := some 84) rfl rfl (by rfl) ?_ (fun w' => ?_) ?_
               rotate_left
               · go_simp
                 with_reducible rfl
               simp only [Act.put, List.setIfInBounds_toArray, List.set_cons_zero, List.set_cons_succ])
              (refine seq_p (N := some 85) rfl rfl (by rfl) ?_ (fun w' => ?_) ?_
               rotate_left
               · go_simp
                 with_reducible rfl
               simp only [Act.put, List.setIfInBounds_toArray, List.set_cons_zero, List.set_cons_succ])
              (refine seq_q (N := some 86) rfl rfl (by rfl) ?_ ?_ hS ?_
               rotate_left
               · rintro w' ⟨s1, s2⟩
                 go_simp
                 with_reducible rfl
               simp only [Act.put, List.setIfInBounds_toArray, List.set_cons_zero, List.set_cons_succ])
              (refine seq_p (N := some 87) rfl rfl (by rfl) ?_ (fun w' => ?_) ?_
               rotate_left
               · go_simp
                 with_reducible rfl
               simp only [Act.put, List.setIfInBounds_toArray, List.set_cons_zero, List.set_cons_succ])
              (refine seq_p (N := some 88) rfl rfl (by rfl) ?_ (fun w' => ?_) ?_
               rotate_left
               · go_simp
                 with_reducible rfl
               simp only [Act.put, List.setIfInBounds_toArray, List.set_cons_zero, List.set_cons_succ])
              (refine seq_p (N := some 89) rfl rfl (by rfl) ?_ (fun w' => ?_) ?_
               rotate_left
               · go_simp
                 with_reducible rfl
               simp only [Act.put, List.setIfInBounds_toArray, List.set_cons_zero, List.set_cons_succ])
              (refine seq_p (N := some 90) rfl rfl (by rfl) ?_ (fun w' => ?_) ?_
               rotate_left
               · go_simp
                 with_reducible rfl
               simp only [Act.put, List.setIfInBounds_toArray, List.set_cons_zero, List.set_cons_succ])
              (refine seq_q (N := some 91) rfl rfl (by rfl) ?_ ?_ hS ?_
               rotate_left
               · rintro w' ⟨s1, s2⟩
                 go_simp
                 with_reducible rfl
               simp only [Act.put, List.setIfInBounds_toArray, List.set_cons_zero, List.set_cons_succ])
              have bd : Below w9.heap.size w9 w9.drew := (Below.refl _ _).drew
              have Id := Lib.hid (L9.out.below bd)
              have Td := Lib.hid (TX.out.move (CMove.below bd))
              have Bd := Lib.hid (B9.out.trans (bd.mono B9.out.size))
              have Md := Lib.hid (M9.out.move (CMove.below bd))
              refine seq_l rfl (by rfl) (wp_cl (N := some 92) (f := 22) (vs := #[.pointer (some ⟨cb, 0, none⟩), .int .i64 xver, xv]) rfl rfl (by simp [Act.eval]) (callF Tryz.func22 rfl (by decide) _ _) ?_)
              refine (Id.out.put xver xv xl Td.out HXI.out (by have := HLL.out.1; omega) (fun b hb => by have := HLL.out.2 b hb; omega) (by omega) (by omega)).mono ?_
              rintro e w10 ⟨rfl, r10, vr10, n10, hn10, l10, hr10, m10⟩
              have hps := put_step Id.out.g xver xl (by have := HLL.out.1; omega) (fun b hb => by have := HLL.out.2 b hb; omega)
              have h1 := putC_T (C := C) (ver := xver) (l := xl)
              have h2 := HLL.out.1
              have h3 := hps.2.log
              have h4 := hps.2.len
              have h6 : (i + 1) * nb = i * nb + nb := by rw [Nat.succ_mul]
              have h7 := hnl.out
              have hfin : (putC C xver xl).1.J.D.log.length ≤ 2 + (i + 1) * nb ∧ (putC C xver xl).1.J.D.now.length = nb ∧ (putC C xver xl).1.T.length ≤ 8 * (i + 1) := by omega
              have HFIN := Lib.hid hfin
              have HLM : Hid ((putC C xver xl).1.J.D.lim = false) := hps.2.lim.trans hlm.out
              have HG := Lib.hid Id.out.g
              have L10 := Lib.hid l10
              have B10 := Lib.hid (m10.base Id.out Bd.out (Nat.le_refl _))
              have M10 := Lib.hid (Md.out.move m10)
              have T10 := Lib.hid (Td.out.move m10)
              refine ⟨_, rfl, ?_⟩
              simp only [Act.put, List.setIfInBounds_toArray, List.set_cons_zero, List.set_cons_succ]
              have hbo := Id.out.old hbl
              have hS2 : w10.cell? ⟨b, o + i * 3 + 1, none⟩ = some (.int .i64 xver) ∧ w10.cell? ⟨b, o + i * 3 + 2, none⟩ = some xv := ⟨(World.cell?_of_block (m10.fr.block b hbo.1 hbo.2)).trans hS.1, (World.cell?_of_block (m10.fr.block b hbo.1 hbo.2)).trans hS.2⟩
              refine ⟨fun _ => hS2, ?_⟩
              (refine seq_p (N := some 13) rfl rfl (by rfl) ?_ (fun w' => ?_) ?_
               rotate_left
               · go_simp
                 with_reducible rfl
               simp only [Act.put, List.setIfInBounds_toArray, List.set_cons_zero, List.set_cons_succ])
              refine seq_nil ?_
              have hr10' : r10.b = r5.b := hr10.trans hrb2
              have hnn : n10 ≤ 100000000 + 1000 * (i + 1) := by omega
              have KB : Hid (∀ j, j < w.heap.size → Off w10 cb jb mb r10 vr10 j) := fun j hj => L10.out.old hj
              have hput := Lib.hid (fun w k t d => RCPut_any (.slice bo C.J.D.now.length bc) (.slice tto C.T.length tc) xv C xver xl w k t d HG.out G64.out hlm.out HXI.out (by have := HLL.out.1; omega) (fun b hb => by have := HLL.out.2 b hb; omega) (by omega))
              clear hps l10 m10 Id Td Bd Md k0 k1 k2 TX hrb2 hr10 hS bd hbo h1 h2 h3 h4 h6 h7 hfin hn10 L9 B9 M9 hlm
              generalize putC C xver xl = PX at *
              go_wp2_with fail
              refine region_seq (fun w' => w'.rangeAt tb 0 [.slice bo C.J.D.now.length bc, .int .i64 C.ver, .slice tto C.T.length tc] ∧ w'.cell? ⟨b, o + i * 3 + 1, none⟩ = some (.int .i64 xver) ∧ w'.cell? ⟨b, o + i * 3 + 2, none⟩ = some xv) [15]
                [(.q, 0), (.p, 1), (.p, 2), (.p, 3), (.p, 4), (.q, 5), (.p, 6), (.p, 7), (.p, 8), (.p, 9), (.q, 10), (.l, 11), (.p, 12), (.p, 13), (.p, 14), (.d, 15), (.p, 16)] (by kernel_rfl) (by kernel_rfl) (by kernel_rfl) (by kernel_rfl) (fun d v c a w h => by cases d <;> exact h) ?_
              have hS : w10.drew.rangeAt tb 0 [.slice bo C.J.D.now.length bc, .int .i64 C.ver, .slice tto C.T.length tc] ∧ w10.drew.cell? ⟨b, o + i * 3 + 1, none⟩ = some (.int .i64 xver) ∧ w10.drew.cell? ⟨b, o + i * 3 + 2, none⟩ = some xv := ⟨M10.out.rg, hS2.1, hS2.2⟩
              refine seq_q (N := some 94) rfl rfl (by rfl) (.agg #[.slice bo C.J.D.now.length bc, .int .i64 C.ver, .slice tto C.T.length tc]) (fun w' h => run_ld rfl rfl (load_ref h.1)) hS ?_
              simp only [Act.put, List.setIfInBounds_toArray, List.set_cons_zero, List.set_cons_succ]
              (refine seq_p (N := some 95) rfl rfl (by rfl) ?_ (fun w' => ?_) ?_
               rotate_left
               · go_simp
                 with_reducible rfl
               simp only [Act.put, List.setIfInBounds_toArray, List.set_cons_zero, List.set_cons_succ])
              (refine seq_p (N := some 96) rfl rfl (by rfl) ?_ (fun w' => ?_) ?_
               rotate_left
               · go_simp
                 with_reducible rfl
               simp only [Act.put, List.setIfInBounds_toArray, List.set_cons_zero, List.set_cons_succ])
              (refine seq_p (N := some 97) rfl rfl (by rfl) ?_ (fun w' => ?_) ?_
               rotate_left
               · go_simp
                 with_reducible rfl
               simp only [Act.put, List.setIfInBounds_toArray, List.set_cons_zero, List.set_cons_succ])
              (refine seq_p (N := some 98) rfl rfl (by rfl) ?_ (fun w' => ?_) ?_
               rotate_left
               · go_simp
                 with_reducible rfl
               simp only [Act.put, List.setIfInBounds_toArray, List.set_cons_zero, List.set_cons_succ])
              (refine seq_q (N := some 99) rfl rfl (by rfl) ?_ ?_ hS ?_
               rotate_left
               · rintro w' ⟨s0, s1, s2⟩
                 go_simp
                 with_reducible rfl
               simp only [Act.put, List.setIfInBounds_toArray, List.set_cons_zero, List.set_cons_succ])
              (refine seq_p (N := some 100) rfl rfl (by rfl) ?_ (fun w' => ?_) ?_
               rotate_left
               · go_simp
                 with_reducible rfl
               simp only [Act.put, List.setIfInBounds_toArray, List.set_cons_zero, List.set_cons_succ])
              (refine seq_p (N := some 101) rfl rfl (by rfl) ?_ (fun w' => ?_) ?_
               rotate_left
               · go_simp
                 with_reducible rfl
               simp only [Act.put, List.setIfInBounds_toArray, List.set_cons_zero, List.set_cons_succ])
              (refine seq_p (N := some 102) rfl rfl (by rfl) ?_ (fun w' => ?_) ?_
               rotate_left
               · go_simp
                 with_reducible rfl
               simp only [Act.put, List.setIfInBounds_toArray, List.set_cons_zero, List.set_cons_succ])
              (refine seq_p (N := some 103) rfl rfl (by rfl) ?_ (fun w' => ?_) ?_
               rotate_left
               · go_simp
                 with_reducible rfl
               simp only [Act.put, List.setIfInBounds_toArray, List.set_cons_zero, List.set_cons_succ])
              (refine seq_q (N := some 104) rfl rfl (by rfl) ?_ ?_ hS ?_
               rotate_left
               · rintro w' ⟨s0, s1, s2⟩
                 go_simp
                 with_reducible rfl
               simp only [Act.put, List.setIfInBounds_toArray, List.set_cons_zero, List.set_cons_succ])
              have bd : Below w10.heap.size w10 w10.drew := (Below.refl _ _).drew
              have Ld := Lib.hid (L10.out.below bd)
              have Td := Lib.hid (T10.out.move (CMove.below bd))
              have Bd := Lib.hid (B10.out.trans (bd.mono B10.out.size))
              have Md := Lib.hid (M10.out.move (CMove.below bd))
              refine seq_l rfl (by rfl) (wp_cl (N := some 105) (f := 23) (vs := #[.agg #[.slice bo C.J.D.now.length bc, .int .i64 C.ver, .slice tto C.T.length tc], .int .i64 xver, xv]) rfl rfl (by simp [Act.eval]) (callF Tryz.func23 rfl (by decide) _ _) ?_)
              refine (hput.out w10.drew Md.out.k Md.out.ra.t.b Td.out.b).mono ?_
              intro e w11 hp
              have hq := Md.out.take Ld.out hp
              obtain ⟨ao5, c5, ao6, c6, rfl, b11, m11, m12⟩ := hq
              have Lw := Lib.hid (Ld.out.below b11)
              have M12 := Lib.hid m12
              have Bw := Lib.hid (Bd.out.trans (b11.mono Bd.out.size))
              refine ⟨_, rfl, ?_⟩
              simp only [Act.put, List.setIfInBounds_toArray, List.set_cons_zero, List.set_cons_succ]
              have hbo2 : b < w10.drew.heap.size := (KB.out b hbl).1
              refine ⟨fun _ => ⟨m11.rg, (World.cell?_of_block (b11.block b hbo2)).trans hS.2.1, (World.cell?_of_block (b11.block b hbo2)).trans hS.2.2⟩, ?_⟩
              (refine seq_p (N := some 93) rfl rfl (by rfl) ?_ (fun w' => ?_) ?_
               rotate_left
               · go_simp
                 with_reducible rfl
               simp only [Act.put, List.setIfInBounds_toArray, List.set_cons_zero, List.set_cons_succ])
              (refine seq_p (N := some 106) rfl rfl (by rfl) ?_ (fun w' => ?_) ?_
               rotate_left
               · go_simp
                 with_reducible rfl
               simp only [Act.put, List.setIfInBounds_toArray, List.set_cons_zero, List.set_cons_succ])
              (refine seq_p (N := some 107) rfl rfl (by rfl) ?_ (fun w' => ?_) ?_
               rotate_left
               · go_simp
                 with_reducible rfl
               simp only [Act.put, List.setIfInBounds_toArray, List.set_cons_zero, List.set_cons_succ])
              refine seq_d rfl (by rfl) (wp_st rfl rfl rfl rfl (store_ref w11 tb _ _ _ _ _ _ _ _ _ _ m11.ra.h) ?_)
              (refine seq_p (N := some 14) rfl rfl (by rfl) ?_ (fun w' => ?_) ?_
               rotate_left
               · go_simp
                 with_reducible rfl
               simp only [Act.put, List.setIfInBounds_toArray, List.set_cons_zero, List.set_cons_succ])
              refine seq_nil ?_
              have fr : Fr w11 (((w11.setCell ⟨tb, 0, none⟩ (.slice ao5 PX.1.J.D.now.length c5)).setCell ⟨tb, 1, none⟩ (.int .i64 PX.1.ver)).setCell ⟨tb, 2, none⟩ (.slice ao6 PX.1.T.length c6)) (fun k => k = tb) :=
                (((Fr.refl w11 (fun k => k = tb)).setCell ⟨tb, 0, none⟩ _ (fun _ => rfl)).setCell ⟨tb, 1, none⟩ _ (fun _ => rfl)).setCell ⟨tb, 2, none⟩ _ (fun _ => rfl)
              have Lz := Lib.hid (Lw.out.poke fr (fun i hi e => M12.out.ra.o (e ▸ hi)))
              have Bz := Lib.hid (set3 Bw.out HTB.out (.slice ao5 PX.1.J.D.now.length c5) (.int .i64 PX.1.ver) (.slice ao6 PX.1.T.length c6))
              clear fr m11 m12 hp bd hS hS2 hbo2 b11 hput Lw Bw Ld Td Bd Md L10 B10 M10 T10 KB
              generalize (((w11.setCell ⟨tb, 0, none⟩ (.slice ao5 PX.1.J.D.now.length c5)).setCell ⟨tb, 1, none⟩ (.int .i64 PX.1.ver)).setCell ⟨tb, 2, none⟩ (.slice ao6 PX.1.T.length c6)) = wz at *
              generalize PX.2 = e2 at *
              generalize PX.1 = C' at *
              generalize r10 = rz at *
              generalize vr10 = vrz at *
              generalize n10 = nz at *
              have y0 := M12.out.ra.c0
              have y1 := M12.out.ra.c1
              have y2 := M12.out.ra.c2
              go_wp2_with fail
            rotate_left
            by_cases h1 : xk = 1
            focus
              subst h1
              go_wp2_with fail
              refine (L9.out.compact (by omega) (by omega) (by omega)).mono ?_
              rintro e w10 ⟨rfl, r10, vr10, n10, hn10, l10, hr10, m10⟩
              have hps := compact_step L9.out.g (by omega)
              have h1 : (compactC C).1.T.length = C.T.length := by rw [compactC_same.2]
              have h3 := hps.2.log
              have h4 := hps.2.len
              have h6 : (i + 1) * nb = i * nb + nb := by rw [Nat.succ_mul]
              have h7 := hnl.out
              have hfin : (compactC C).1.J.D.log.length ≤ 2 + (i + 1) * nb ∧ (compactC C).1.J.D.now.length = nb ∧ (compactC C).1.T.length ≤ 8 * (i + 1) := by omega
              have HFIN := Lib.hid hfin
              have HLM : Hid ((compactC C).1.J.D.lim = false) := hps.2.lim.trans hlm.out
              have HG := Lib.hid L9.out.g
              have L10 := Lib.hid l10
              have B10 := Lib.hid (m10.base L9.out B9.out (Nat.le_refl _))
              have M10 := Lib.hid (M9.out.move m10)
              have hr10' : r10.b = r5.b := hr10.trans hrb2
              have hnn : n10 ≤ 100000000 + 1000 * (i + 1) := by omega
              have hput := Lib.hid (fun w k t => RCCompact_any (.slice bo C.J.D.now.length bc) (.slice tto C.T.length tc) C w k t HG.out G64.out hlm.out (by omega))
              have y0 := M10.out.ra.c0
              have y1 := M10.out.ra.c1
              have y2 := M10.out.ra.c2
              clear hps l10 m10 k0 k1 k2 TX hrb2 hr10 h1 h3 h4 h6 h7 hfin hn10 L9 B9 M9 hlm HLL
              generalize compactC C = PX at *
              go_wp2_with fail
              refine (hput.out w10 M10.out.k M10.out.ra.t.b).mono ?_
              intro e w11 hp
              have hq := M10.out.take L10.out hp
              obtain ⟨ao5, c5, ao6, c6, rfl, b11, m11, m12⟩ := hq
              have Lw := Lib.hid (L10.out.below b11)
              have M12 := Lib.hid m12
              have Bw := Lib.hid (B10.out.trans (b11.mono B10.out.size))
              have fr : Fr w11 (((w11.setCell ⟨tb, 0, none⟩ (.slice ao5 PX.1.J.D.now.length c5)).setCell ⟨tb, 1, none⟩ (.int .i64 PX.1.ver)).setCell ⟨tb, 2, none⟩ (.slice ao6 PX.1.T.length c6)) (fun k => k = tb) :=
                (((Fr.refl w11 (fun k => k = tb)).setCell ⟨tb, 0, none⟩ _ (fun _ => rfl)).setCell ⟨tb, 1, none⟩ _ (fun _ => rfl)).setCell ⟨tb, 2, none⟩ _ (fun _ => rfl)
              have Lz := Lib.hid (Lw.out.poke fr (fun i hi e => M12.out.ra.o (e ▸ hi)))
              have Bz := Lib.hid (set3 Bw.out HTB.out (.slice ao5 PX.1.J.D.now.length c5) (.int .i64 PX.1.ver) (.slice ao6 PX.1.T.length c6))
              have x0 := m11.ra.c0
              have x1 := m11.ra.c1
              have x2 := m11.ra.c2
              have z0 := m11.ra.fz 0
              have z1 := m11.ra.fz 1
              have z2 := m11.ra.fz 2
              clear fr m11 m12 hp b11 hput Lw Bw L10 B10 M10 y0 y1 y2
              have y0 := M12.out.ra.c0
              have y1 := M12.out.ra.c1
              have y2 := M12.out.ra.c2
              go_wp2_with fail
              clear x0 x1 x2 z0 z1 z2
              generalize (((w11.setCell ⟨tb, 0, none⟩ (.slice ao5 PX.1.J.D.now.length c5)).setCell ⟨tb, 1, none⟩ (.int .i64 PX.1.ver)).setCell ⟨tb, 2, none⟩ (.slice ao6 PX.1.T.length c6)) = wz at *
              generalize PX.2 = e2 at *
              generalize PX.1 = C' at *
              generalize r10 = rz at *
              generalize vr10 = vrz at *
              generalize n10 = nz at *
            rotate_left
            focus
              have h0' : (xk == 0) = false := by simpa using h0
              have h1' : (xk == 1) = false := by simpa using h1
              go_wp2_with fail
              have hco := COpen_any r2 C.J.D w9 L9.out.ci.1 L9.out.g.h5
              rw [hrb2] at hco
              refine hco.mono ?_
              rintro e wz ⟨bz, hz⟩
              rw [L9.out.g.jp] at hz
              simp only [L9.out.g.ld] at hz
              obtain ⟨cbz, jbz, mbz, nz, vrz, rfl, hcb, hjb, hmb, hk, hc⟩ := hz
              rw [← hrb2] at hc
              have Lz : Hid (Live wz w.heap.size r2 cbz jbz mbz nz vrz C) := ⟨⟨L9.out.ci.1.below bz, ⟨hc.c, hc.j.base B9.out.size, hc.m, hc.so, hc.fi⟩⟩, by
                have hs := B9.out.size
                rintro j (hj | rfl | rfl | rfl | hj)
                · exact L9.out.lo j (.inl hj)
                · omega
                · omega
                · omega
                · have := (own_base' hc.j.hr hj).1; omega, Nat.le_trans L9.out.hB bz.size, L9.out.g⟩
              have M12 := Lib.hid (M9.out.reopen bz hcb hjb hmb (fun j hj => (own_base' hc.j.hr hj).1))
              have Bz := Lib.hid (B9.out.trans (bz.mono B9.out.size))
              have h6 : (i + 1) * nb = i * nb + nb := by rw [Nat.succ_mul]
              have h7 := hnl.out
              have hfin : C.J.D.log.length ≤ 2 + (i + 1) * nb ∧ C.J.D.now.length = nb ∧ C.T.length ≤ 8 * (i + 1) := by omega
              have HFIN := Lib.hid hfin
              have HLM := hlm
              have hr10' := hrb2
              have hnn : nz ≤ 100000000 + 1000 * (i + 1) := by omega
              clear hc bz hcb hjb hmb hk h6 h7 hfin L9 M9 B9 k0 k1 k2 TX HXI HLL h0 h1 h0' h1' hlg hnl htl hlm hn2 hn3 hlog hTl hrb2 hco
              generalize bo = ao5 at *
              generalize bc = c5 at *
              generalize tto = ao6 at *
              generalize tc = c6 at *
              generalize cbz = cb at *
              generalize jbz = jb at *
              generalize mbz = mb at *
              generalize C = C' at *
              generalize r2 = rz at *
              have y0 := M12.out.ra.c0
              have y1 := M12.out.ra.c1
              have y2 := M12.out.ra.c2
              go_wp2_with fail
            all_goals
              have sm := Lib.hid (same_any cb jb mb nz C'.ver C'.T (.slice ao5 C'.J.D.now.length c5) (.slice ao6 C'.T.length c6) wz Lz.out.ci.2.c Lz.out.ci.2.m Lz.out.g.tg.so Lz.out.g.tg.fi (by omega) (by have := HFIN.out.2.2; omega) M12.out.ra.t.b)
              refine sm.out.mono ?_
              rintro e wy ⟨rfl, b9y⟩
              have Ly := Lib.hid (Lz.out.below b9y)
              have My := Lib.hid (M12.out.move (CMove.below b9y))
              have By := Lib.hid (Bz.out.trans (b9y.mono Bz.out.size))
              clear b9y sm y0 y1 y2 Lz M12 Bz
              go_wp2_with fail
              go_roundw
              case rel => exact ⟨i + 1, rz, cb, jb, mb, nz, vrz, _, _, C', rfl, by go_num, by omega, hr10', hnn, Ly.out, By.out, My.out, HFIN.out.1, HFIN.out.2.1, HFIN.out.2.2, HLM.out⟩
              case measure => simp [intOf]; omega
          · have hic' : ¬ (i : Int) < (L.length : Int) := by omega
            go_wp2_with (go_at_call 9; refine (lives_any _).mono ?_; rintro e w20 ⟨rfl, b20⟩; have B20 := Lib.hid (hB.out.trans (b20.mono hB.out.size)); clear b20)
            go_ret
            exact ⟨rfl, B20.out⟩
end Go.Proofs.YtjflcpkmoamijaaGreatDoor
