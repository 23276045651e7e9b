import Derived.Test.YtjflcpkmoamijaaGreatDoorRf2
import Derived.Test.YtjflcpkmoamijaaGreatDoorCr
namespace Go.Proofs.YtjflcpkmoamijaaGreatDoor
open Go.RowKit
set_option linter.unusedVariables false
set_option linter.unusedSimpArgs false
set_option linter.unnecessarySimpa false

/-! ### A device too small for a cache -/
theorem JFormat_short (r : DRef) (D : Dev) (w : World) (h : DevIs w r D) (h5 : D.now.length < 5) :
    Calls Tryz.prog 11 #[.pointer (some ⟨r.b, 0, none⟩)] w fun e w' => e = .returned (.int .i64 12) ∧ w' = w := by
  have hc := check_any r D w h
  rw [if_pos h5] at hc
  have HC := Lib.hid hc
  clear hc h
  go_enter Tryz.func11, Tryz.ntmps11
  go_wp2_with (refine HC.out.mono ?_; rintro e w2 ⟨rfl, rfl⟩)
  go_ret
  exact ⟨rfl, rfl⟩
theorem CFormat_short (r : DRef) (D : Dev) (w : World) (h : DevIs w r D) (h5 : D.now.length < 5) :
    Calls Tryz.prog 20 #[.pointer (some ⟨r.b, 0, none⟩)] w fun e w' => e = .returned (.int .i64 12) ∧ w' = w := by
  have hc := Lib.hid (JFormat_short r D w h h5)
  clear h
  go_enter Tryz.func20, Tryz.ntmps20
  go_wp2_with (refine hc.out.mono ?_; rintro e w2 ⟨rfl, rfl⟩)
  go_ret
  exact ⟨rfl, rfl⟩
set_option maxHeartbeats 1000000 in
set_option maxRecDepth 100000 in
theorem start_short (n : Int) (w : World) (h : n < 5) :
    Calls Tryz.prog 26 #[.int .i64 n] w fun e w' => e = .returned (.tuple #[.pointer none, .pointer none, .bool false]) ∧ Below w.heap.size w w' := by
  by_cases h1 : n < 1
  · have HN := Lib.hid (New_none n w (.inl h1))
    go_enter Tryz.func26, Tryz.ntmps26
    go_wp2_with fail
    refine HN.out.mono ?_
    rintro e w2 ⟨rfl, rfl⟩
    go_wp2_with fail
    go_ret3
    exact ⟨rfl, Below.refl _ _⟩
  · obtain ⟨m, rfl⟩ : ∃ m : Nat, n = m := ⟨n.toNat, by omega⟩
    have HN := Lib.hid (New_any m w (by omega) (by omega))
    have hlen : (Dev.fresh m).now.length < 5 := by simp [Dev.fresh]; omega
    go_enter Tryz.func26, Tryz.ntmps26
    go_wp2_with fail
    refine HN.out.mono ?_
    rintro e w2 ⟨r, rfl, d2, b2, _⟩
    have B2 := Lib.hid b2
    have HF := Lib.hid (CFormat_short r _ w2 d2 hlen)
    clear d2 b2
    go_wp2_with (refine HF.out.mono ?_; rintro e w3 ⟨rfl, rfl⟩)
    go_ret3
    exact ⟨rfl, B2.out⟩
theorem load_ver : ∀ (l : List ByteArray) (v : Int) (T : List Bl) (v' : Int) (T' : List Bl), loadL l v T = some (v', T') → v ≤ v' ∧ (v' = v → l = [])
  | [], v, T, v', T', h => by
    simp [loadL] at h
    obtain ⟨rfl, _⟩ := h
    exact ⟨Int.le_refl _, fun _ => rfl⟩
  | s :: l, v, T, v', T', h => by
    unfold loadL at h
    split at h
    · rename_i hr
      have := load_ver l _ _ _ _ h
      unfold recOk at hr
      simp at hr
      exact ⟨by omega, fun e => by omega⟩
    · cases h
theorem compact_recs {C : Cn} (h : CGood C) (hc : (compactC C).2 = 0) : (compactC C).1.J.l = if C.ver < 0 then [] else [encP C.ver C.T] := by
  by_cases hv : C.ver < 0
  · have e : compactC C = (C, 0) := by unfold compactC; rw [if_pos hv]
    rw [e, if_pos hv]
    have := load_ver _ _ _ _ _ h.ld
    have h0 := h.v0
    exact this.2 (by omega)
  · have e : compactC C = (⟨(resetP C.J [encP C.ver C.T]).1, C.ver, C.T⟩, okE (resetP C.J [encP C.ver C.T]).2) := by unfold compactC; rw [if_neg hv]
    rw [e] at hc ⊢
    rw [if_neg hv]
    unfold resetP at hc ⊢
    split at hc
    · simp [okE] at hc
    · split at hc
      · rename_i h1 h2
        rw [if_neg h1, if_pos h2]
      · simp [okE] at hc
theorem compact_code (C : Cn) : (compactC C).2 = 0 ∨ (compactC C).2 = 20 := by
  unfold compactC
  split
  · exact .inl rfl
  · unfold okE
    split
    · exact .inl rfl
    · exact .inr rfl
set_option maxHeartbeats 4000000 in
set_option maxRecDepth 100000 in
theorem compacts_any (blocks : Int) (v : Value) (L : List Opv) (w : World) (h : OpsAt w v L) :
    Calls Tryz.prog 5 #[.int .i64 blocks, v] w fun e w' => e = .returned (.bool true) ∧ Below w.heap.size w w' := by
  obtain ⟨ao, c, rfl, hne⟩ := h.sl
  have H := Lib.hid h
  have HNE := Lib.hid hne
  clear h hne
  go_enter Tryz.func5, Tryz.ntmps5
  go_wp2_with fail
  refine (few_any blocks _ L w H.out).mono ?_
  rintro e w ⟨β, rfl, rfl, hfew⟩
  have HFEW := Lib.hid hfew
  clear hfew
  cases β with
  | false =>
    go_wp2_with (go_at_call 9; refine (lives_any _).mono ?_; rintro e w5 ⟨rfl, b5⟩; have B5 := Lib.hid b5; clear b5)
    go_ret
    exact ⟨rfl, B5.out⟩
  | true =>
    have hF := HFEW.out rfl
    obtain ⟨hb40, hL8, hl⟩ := hF
    have HL := Lib.hid hl
    clear hl HFEW
    by_cases h5 : blocks < 5
    · go_wp2_with fail
      refine (start_short blocks w h5).mono ?_
      rintro e w4 ⟨rfl, b4⟩
      have B4 := Lib.hid b4
      clear b4
      go_wp2_with (go_at_call 9; refine (lives_any _).mono ?_; rintro e w5 ⟨rfl, b5⟩; have B5 := Lib.hid (B4.out.trans (b5.mono B4.out.size)); clear b5)
      go_ret
      exact ⟨rfl, B5.out⟩
    · obtain ⟨nb, rfl⟩ : ∃ nb : Nat, blocks = nb := ⟨blocks.toNat, by omega⟩
      have hnb : 5 ≤ nb ∧ nb ≤ 40 := by omega
      go_wp2_with fail
      refine (start_any nb w hnb.1 (by omega) (format_parse nb hnb.1 (by omega))).mono ?_
      rintro e w5 ⟨r, cb, jb, mb, n, vr, rfl, c5, hn5, b5, f5⟩
      have L5 : Hid (Live w5 w.heap.size r cb jb mb n vr ⟨⟨(Dev.fresh nb).format, 0, 0, []⟩, -1, []⟩) := ⟨c5, f5, b5.size, start_good nb hnb.1 (by omega)⟩
      have B5 := Lib.hid b5
      have hC0 : Hid ((⟨⟨(Dev.fresh nb).format, 0, 0, []⟩, -1, []⟩ : Cn).J.D.log.length = 2 ∧ (⟨⟨(Dev.fresh nb).format, 0, 0, []⟩, -1, []⟩ : Cn).J.D.now.length = nb ∧ (⟨⟨(Dev.fresh nb).format, 0, 0, []⟩, -1, []⟩ : Cn).T.length = 0) :=
        ⟨rfl, by simp [Dev.format, Dev.write, Dev.fresh], rfl⟩
      clear c5 b5 f5
      generalize (⟨⟨(Dev.fresh nb).format, 0, 0, []⟩, -1, []⟩ : Cn) = C0 at *
      go_wp2_with fail
      go_loopw [8] (fun iv wr => ∃ (i : Nat) (r2 : DRef) (n2 : Nat) (vr2 : Value) (C : Cn), iv = .int .i64 i ∧ i ≤ L.length ∧ r2.b = r.b ∧ n2 ≤ 100000000 + 1000 * i ∧ Hid (Live wr w.heap.size r2 cb jb mb n2 vr2 C) ∧ Hid (Below w.heap.size w wr) ∧ C.J.D.log.length ≤ 2 + i * nb ∧ C.J.D.now.length = nb ∧ C.T.length ≤ 8 * i) (fun iv _ => L.length - (intOf iv).toNat)
      case atStart => exact ⟨0, r, n, vr, C0, rfl, by omega, rfl, by omega, L5.out, B5.out, by rw [hC0.out.1]; omega, hC0.out.2.1, by rw [hC0.out.2.2]; omega⟩
      case round =>
        obtain ⟨i, r2, n2, vr2, C, rfl, hi, hrb, hn2, hI, hB, hlg, hnl, htl⟩ := hrel
        have hinb : i * nb ≤ 8 * 40 := Nat.mul_le_mul (by omega) (by omega)
        by_cases hic : i < L.length
        · have hic' : (i : Int) < (L.length : Int) := by omega
          obtain ⟨b, o, rfl, hbl⟩ := HNE.out (by intro h; subst h; simp at hic)
          have Or := Lib.hid (H.out.fr (Fr.of_below hB.out Nowhere) (fun _ _ h => h))
          have hx := range3 (Or.out.nth i hic)
          have hop := Or.out.op _ (List.getElem_mem hic)
          have hop0 := H.out.op _ (List.getElem_mem hic)
          have hll := HL.out _ (List.getElem_mem hic)
          generalize L[i] = x at *
          obtain ⟨k0, k1, k2⟩ := hx
          obtain ⟨xk, xver, xv, xl⟩ := x
          simp only at k0 k1 k2 hll
          have TX : Hid (TAt wr cb jb mb r2 vr2 xv xl) := ⟨hop.b, fun h0 k hk => hI.out.old (hop0.lt h0 k hk)⟩
          have HXI : Hid (InInt xver) := hop.i
          have HLL := Lib.hid hll
          clear hop hop0 hll
          go_wp2_with fail
          refine region_seq (fun w' => w'.cell? ⟨b, o + i * 3 + 1, none⟩ = some (.int .i64 xver) ∧ w'.cell? ⟨b, o + i * 3 + 2, none⟩ = some xv) []
            [(.p, 0), (.p, 1), (.p, 2), (.p, 3), (.p, 4), (.q, 5), (.p, 6), (.p, 7), (.p, 8), (.p, 9), (.q, 10), (.l, 11)] (by kernel_rfl) (by kernel_rfl) (by kernel_rfl) (by kernel_rfl) (fun d v c a w h => by cases d <;> exact h) ?_
          have hS : wr.drew.cell? ⟨b, o + i * 3 + 1, none⟩ = some (.int .i64 xver) ∧ wr.drew.cell? ⟨b, o + i * 3 + 2, none⟩ = some xv := ⟨k1, k2⟩
          (refine seq_p (N := some 38) rfl rfl (by rfl) ?_ (fun w' => ?_) ?_
           rotate_left
           · go_simp
             with_reducible rfl
           simp only [Act.put, List.setIfInBounds_toArray, List.set_cons_zero, List.set_cons_succ])
          (refine seq_p (N := some 39) rfl rfl (by rfl) ?_ (fun w' => ?_) ?_
           rotate_left
           · go_simp
             with_reducible rfl
           simp only [Act.put, List.setIfInBounds_toArray, List.set_cons_zero, List.set_cons_succ])
          (refine seq_p (N := some 40) rfl rfl (by rfl) ?_ (fun w' => ?_) ?_
           rotate_left
           · go_simp
             with_reducible rfl
           simp only [Act.put, List.setIfInBounds_toArray, List.set_cons_zero, List.set_cons_succ])
          (refine seq_p (N := some 41) rfl rfl (by rfl) ?_ (fun w' => ?_) ?_
           rotate_left
           · go_simp
             with_reducible rfl
           simp only [Act.put, List.setIfInBounds_toArray, List.set_cons_zero, List.set_cons_succ])
          (refine seq_p (N := some 42) rfl rfl (by rfl) ?_ (fun w' => ?_) ?_
           rotate_left
           · go_simp
             with_reducible rfl
           simp only [Act.put, List.setIfInBounds_toArray, List.set_cons_zero, List.set_cons_succ])
          (refine seq_q (N := some 43) rfl rfl (by rfl) ?_ ?_ hS ?_
           rotate_left
           · rintro w' ⟨s1, s2⟩
             go_simp
             with_reducible rfl
           simp only [Act.put, List.setIfInBounds_toArray, List.set_cons_zero, List.set_cons_succ])
          (refine seq_p (N := some 44) rfl rfl (by rfl) ?_ (fun w' => ?_) ?_
           rotate_left
           · go_simp
             with_reducible rfl
           simp only [Act.put, List.setIfInBounds_toArray, List.set_cons_zero, List.set_cons_succ])
          (refine seq_p (N := some 45) rfl rfl (by rfl) ?_ (fun w' => ?_) ?_
           rotate_left
           · go_simp
             with_reducible rfl
           simp only [Act.put, List.setIfInBounds_toArray, List.set_cons_zero, List.set_cons_succ])
          (refine seq_p (N := some 46) rfl rfl (by rfl) ?_ (fun w' => ?_) ?_
           rotate_left
           · go_simp
             with_reducible rfl
           simp only [Act.put, List.setIfInBounds_toArray, List.set_cons_zero, List.set_cons_succ])
          (refine seq_p (N := some 47) rfl rfl (by rfl) ?_ (fun w' => ?_) ?_
           rotate_left
           · go_simp
             with_reducible rfl
           simp only [Act.put, List.setIfInBounds_toArray, List.set_cons_zero, List.set_cons_succ])
          (refine seq_q (N := some 48) rfl rfl (by rfl) ?_ ?_ hS ?_
           rotate_left
           · rintro w' ⟨s1, s2⟩
             go_simp
             with_reducible rfl
           simp only [Act.put, List.setIfInBounds_toArray, List.set_cons_zero, List.set_cons_succ])
          have bd : Below wr.heap.size wr wr.drew := (Below.refl _ _).drew
          have Id := Lib.hid (hI.out.below bd)
          have Td := Lib.hid (TX.out.move (CMove.below bd))
          have Bd := Lib.hid (hB.out.trans (bd.mono hB.out.size))
          refine seq_l rfl (by rfl) (wp_cl (N := some 49) (f := 22) (vs := #[.pointer (some ⟨cb, 0, none⟩), .int .i64 xver, xv]) rfl rfl (by simp [Act.eval]) (callF Tryz.func22 rfl (by decide) _ _) ?_)
          refine (Id.out.put xver xv xl Td.out HXI.out (by have := HLL.out.1; omega) (fun b hb => by have := HLL.out.2 b hb; omega) (by omega) (by omega)).mono ?_
          rintro e w10 ⟨rfl, r10, vr10, n10, hn10, l10, hr10, m10⟩
          have hps := put_step Id.out.g xver xl (by have := HLL.out.1; omega) (fun b hb => by have := HLL.out.2 b hb; omega)
          have h1 := putC_T (C := C) (ver := xver) (l := xl)
          have h2 := HLL.out.1
          have h3 := hps.2.log
          have h4 := hps.2.len
          have h6 : (i + 1) * nb = i * nb + nb := by rw [Nat.succ_mul]
          have hfin : (putC C xver xl).1.J.D.log.length ≤ 2 + (i + 1) * nb ∧ (putC C xver xl).1.J.D.now.length = nb ∧ (putC C xver xl).1.T.length ≤ 8 * (i + 1) := by omega
          have HFIN := Lib.hid hfin
          have L10 := Lib.hid l10
          have B10 := Lib.hid (m10.base Id.out Bd.out (Nat.le_refl _))
          refine ⟨_, rfl, ?_⟩
          simp only [Act.put, List.setIfInBounds_toArray, List.set_cons_zero, List.set_cons_succ]
          have hbo := Id.out.old hbl
          refine ⟨fun _ => ⟨(World.cell?_of_block (m10.fr.block b hbo.1 hbo.2)).trans hS.1, (World.cell?_of_block (m10.fr.block b hbo.1 hbo.2)).trans hS.2⟩, ?_⟩
          refine seq_nil ?_
          have hr10' : r10.b = r.b := hr10.trans hrb
          have hnn : n10 ≤ 100000000 + 1000 * (i + 1) := by omega
          clear hps l10 m10 Id Td Bd k0 k1 k2 TX hI hB hrb hr10 hS bd hbo h1 h2 h3 h4 h6 hfin hn10
          generalize (putC C xver xl).1 = C' at *
          go_wp2_with fail
          go_roundw
          case rel => exact ⟨i + 1, r10, n10, vr10, C', by go_num, by omega, hr10', hnn, L10.out, B10.out, HFIN.out.1, HFIN.out.2.1, HFIN.out.2.2⟩
          case measure => simp [intOf]; omega
        · have hic' : ¬ (i : Int) < (L.length : Int) := by omega
          have hn3 : n2 ≤ 200000000 := by omega
          have hlog : C.J.D.log.length ≤ 500 := by omega
          have hTl : C.T.length ≤ 64 := by omega
          clear hi hn2 hlg htl hinb
          go_wp2_with (go_at_call 27; refine (Version_any cb jb mb C.ver _ hI.out.ci.2.c).mono ?_; rintro e w6 ⟨rfl, rfl⟩)
          refine (Tiles_any cb jb mb n2 C.ver C.T _ hI.out.ci.2.c hI.out.ci.2.m hI.out.ci.2.so hI.out.ci.2.fi (by omega)).mono ?_
          rintro e w7 ⟨v7, rfl, o7, b7⟩
          obtain ⟨ao7, cp7, rfl⟩ := own_slice o7
          have V7 := Lib.hid (hI.out.tiles o7)
          have L7 := Lib.hid (hI.out.below b7)
          have B7 := Lib.hid (hB.out.trans (b7.mono hB.out.size))
          clear o7 b7 hI hB
          go_wp2_with fail
          have r8 := RAt.new L7.out V7.out (.slice none 0 0) C.ver
          have b8 := (Below.refl w7.heap.size w7).alloc (Nat.le_refl _) (.cells #[.slice none 0 0, .int .i64 C.ver, .slice ao7 C.T.length cp7] 40)
          have R8 := Lib.hid r8
          have L8 := Lib.hid (L7.out.below b8)
          have B8 := Lib.hid (B7.out.trans (b8.mono B7.out.size))
          clear r8 b8 L7 B7 V7
          obtain ⟨tb, htb⟩ : ∃ tb, w7.heap.size = tb := ⟨_, rfl⟩
          rw [htb] at R8 ⊢
          generalize w7.alloc (.cells #[.slice none 0 0, .int .i64 C.ver, .slice ao7 C.T.length cp7] 40) = w8 at *
          clear htb
          refine (L8.out.compact (by omega) (by omega) (by omega)).mono ?_
          rintro e w10 ⟨rfl, r10, vr10, n10, hn10, l10, hr10, m10⟩
          have hr10' : r10.b = r.b := hr10.trans hrb
          have R10 := Lib.hid (R8.out.move m10)
          have L10 := Lib.hid l10
          have B10 := Lib.hid (m10.base L8.out B8.out (Nat.le_refl _))
          have HRC := Lib.hid (fun h => compact_recs L8.out.g h)
          have hcode := compact_code C
          have HSM := Lib.hid (compactC_same (C := C))
          have HST := Lib.hid (compact_step L8.out.g (by omega)).2
          have HV0 := Lib.hid L8.out.g.v0
          have HV1 := Lib.hid L8.out.g.v1
          have HTG := Lib.hid L8.out.g.tg
          have hn10' : n10 ≤ 200000000 := by omega
          clear l10 m10 R8 L8 B8 hr10 hrb
          generalize compactC C = PX at *
          obtain ⟨C2, e2⟩ := PX
          simp only at hcode HRC HSM HST L10
          by_cases he : e2 = 0
          · subst he
            have HL2 : Hid (C2.J.l = if C.ver < 0 then [] else [encP C.ver C.T]) := HRC.out rfl
            have h2n : C2.J.D.now.length = nb := by have := HST.out.len; omega
            have h5n : 5 ≤ C2.J.D.now.length := by omega
            have hll : C2.J.l.length ≤ 1 := by rw [HL2.out]; split <;> simp
            have HEV : Hid (∀ s ∈ C2.J.l, s = encP C.ver C.T) := by
              show ∀ s ∈ C2.J.l, _
              rw [HL2.out]
              intro s hs
              split at hs
              · cases hs
              · exact List.mem_singleton.1 hs
            have k1 := R10.out.c1
            have k2 := R10.out.c2
            have hjo := JOpen_any r10 C2.J.D w10 L10.out.ci.1 h5n
            rw [hr10'] at hjo
            have HJO := Lib.hid hjo
            clear HRC hcode hjo
            by_cases hv : C.ver < 0
            focus
              have hln : (C2.J.l.length : Int) = 0 := by rw [HL2.out, if_pos hv]; rfl
              have HLN := Lib.hid hln
              clear hln
              go_wp2_with fail
              clear hv
            rotate_left
            focus
              have hv' : 0 ≤ C.ver := by omega
              have hln : (C2.J.l.length : Int) = 1 := by rw [HL2.out, if_neg hv]; rfl
              have HLN := Lib.hid hln
              clear hln
              go_wp2_with fail
              clear hv hv'
            all_goals
              refine HJO.out.mono ?_
              rintro e w11 ⟨b11, hp⟩
              rw [L10.out.g.jp] at hp
              simp only at hp
              obtain ⟨jb2, vj2, rfl, _, hj2⟩ := hp
              have R11 := Lib.hid (R10.out.move (CMove.below b11))
              have L11 := Lib.hid (L10.out.below b11)
              have B11 := Lib.hid (B10.out.trans (b11.mono B10.out.size))
              have J11 := Lib.hid hj2
              clear b11 hj2 R10 L10 B10 HJO k1 k2
              go_wp2_with fail
              refine (JRecords_any jb2 r.b _ _ _ vj2 C2.J.l w11 J11.out (by omega)).mono ?_
              rintro e w12 ⟨v12, rfl, o12, b12⟩
              obtain ⟨ao12, cp12, rfl⟩ := own_slice o12
              have R12 := Lib.hid (R11.out.move (CMove.below b12))
              have L12 := Lib.hid (L11.out.below b12)
              have B12 := Lib.hid (B11.out.trans (b12.mono B11.out.size))
              have J12 := Lib.hid (J11.out.fr (Fr.of_below b12 Nowhere) (fun _ _ h => h))
              have hln := HLN.out
              clear o12 b12 R11 L11 B11 J11
              go_wp2_with fail
              clear hln
              refine (JRecords_any jb2 r.b _ _ _ vj2 C2.J.l w12 J12.out (by omega)).mono ?_
              rintro e w13 ⟨v13, rfl, o13, b13⟩
              obtain ⟨ao13, cp13, rfl⟩ := own_slice o13
              have R13 := Lib.hid (R12.out.move (CMove.below b13))
              have L13 := Lib.hid (L12.out.below b13)
              have B13 := Lib.hid (B12.out.trans (b13.mono B12.out.size))
              have O13 := Lib.hid o13
              clear o13 b13 R12 L12 B12 J12
              go_wp2_with fail
              go_loopw [88] (fun iv wl => ∃ q : Nat, iv = .int .i64 q ∧ q ≤ C2.J.l.length ∧ Hid (Below w13.heap.size w13 wl)) (fun iv _ => C2.J.l.length - (intOf iv).toNat)
              case atStart => exact ⟨0, rfl, by omega, Below.refl _ _⟩
              case round =>
                obtain ⟨q, rfl, hq, hBl⟩ := hrel
                have Rl := Lib.hid (R13.out.move (CMove.below hBl.out))
                by_cases hqc : q < C2.J.l.length
                · have hqc' : (q : Int) < (C2.J.l.length : Int) := by omega
                  have Ol := (Fr.of_below hBl.out Nowhere).owns O13.out (fun _ _ h => h)
                  obtain ⟨g, hg, k0⟩ := strs_cell Ol hqc
                  subst hg
                  have heq := HEV.out _ (List.getElem_mem hqc)
                  rw [heq] at k0
                  have k1 := Rl.out.c1
                  have k2 := Rl.out.c2
                  clear Ol heq
                  have HRD := Lib.hid (Record_any C.ver _ C.T wr Rl.out.t.b (by have := HV0.out; have := HV1.out; unfold InInt; omega) (by omega) HTG.out.fi)
                  go_wp2_with (go_at_call 30; refine HRD.out.mono ?_; rintro e w15 ⟨rfl, b15⟩; have B15 := Lib.hid b15; clear b15)
                  go_roundw
                  case rel => exact ⟨q + 1, by go_num, by omega, hBl.out.trans (B15.out.mono hBl.out.size)⟩
                  case measure => simp [intOf] <;> omega
                · have hqc' : ¬ (q : Int) < (C2.J.l.length : Int) := by omega
                  have Ll := Lib.hid (L13.out.below hBl.out)
                  have Bl_ := Lib.hid (B13.out.trans (hBl.out.mono B13.out.size))
                  have hos := open_shows r10 C2.J.D wr Ll.out.ci.1 h5n Ll.out.g.shows
                  rw [hr10'] at hos
                  have HOS := Lib.hid hos
                  clear hos
                  go_wp2_with fail
                  refine HOS.out.mono ?_
                  rintro e w16 ⟨b16, cb', jb', mb', n', rfl, hn', hc', hm', hso', hfi'⟩
                  have R16 := Lib.hid (Rl.out.move (CMove.below b16))
                  have L16 := Lib.hid (Ll.out.below b16)
                  have B16 := Lib.hid (Bl_.out.trans (b16.mono Bl_.out.size))
                  have k0 := R16.out.c0
                  have k1 := R16.out.c1
                  have k2 := R16.out.c2
                  have hcc := hc'
                  have hsv := HSM.out.1
                  have hsT := HSM.out.2
                  rw [hsv] at hc'
                  rw [hsT] at hm' hso' hfi'
                  have HC' := Lib.hid hc'
                  have HM' := Lib.hid hm'
                  have HSO := Lib.hid hso'
                  have HFI := Lib.hid hfi'
                  have c16 : CCell w16 cb jb mb C.ver := hsv ▸ L16.out.ci.2.c
                  have m16 : MapIs w16 mb n10 C.T := hsT ▸ L16.out.ci.2.m
                  have hsm1 := Lib.hid (same_any cb jb mb n10 C.ver C.T (.slice none 0 0) _ w16 c16 m16 HTG.out.so HTG.out.fi (by omega) (by omega) R16.out.t.b)
                  clear hc' hm' hso' hfi' b16 Rl Ll Bl_ HOS hcc hsv hsT c16 m16
                  go_wp2_with (first
                    | (go_at_call_of 16 cb; refine hsm1.out.mono ?_; rintro e w17 ⟨rfl, b17⟩
                       have R17 := Lib.hid (R16.out.move (CMove.below b17))
                       have B17 := Lib.hid (B16.out.trans (b17.mono B16.out.size))
                       have y0 := R17.out.c0
                       have y1 := R17.out.c1
                       have y2 := R17.out.c2
                       have hsm2 := Lib.hid (same_any cb' jb' mb' n' C.ver C.T (.slice none 0 0) _ w17 (HC'.out.fr (Fr.of_below b17 Nowhere) (fun h => h)) (HM'.out.fr (Fr.of_below b17 Nowhere) (fun h => h)) HSO.out HFI.out (by omega) (by omega) R17.out.t.b)
                       clear b17)
                    | (go_at_call_of 16 cb'; refine hsm2.out.mono ?_; rintro e w18 ⟨rfl, b18⟩; have B18 := Lib.hid (B17.out.trans (b18.mono B17.out.size)); clear b18)
                    | (go_at_call 9; refine (lives_any _).mono ?_; rintro e w19 ⟨rfl, b19⟩; have B19 := Lib.hid (B18.out.trans (b19.mono B18.out.size)); clear b19))
                  go_ret
                  exact ⟨rfl, B19.out⟩
          · have he' : e2 = 20 := by omega
            subst he'
            go_wp2_with (go_at_call 9; refine (lives_any _).mono ?_; rintro e w11 ⟨rfl, b11⟩; have B11 := Lib.hid (B10.out.trans (b11.mono B10.out.size)); clear b11)
            go_ret
            exact ⟨rfl, B11.out⟩
end Go.Proofs.YtjflcpkmoamijaaGreatDoor
