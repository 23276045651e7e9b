import Derived.Test.YtjflcpkmoamijaaGreatDoorRp
namespace Go.Proofs.YtjflcpkmoamijaaGreatDoor
open Go.RowKit
set_option linter.unusedVariables false
set_option linter.unusedSimpArgs false
set_option linter.unnecessarySimpa false

theorem append_step {J : Jn} {s : ByteArray} (hp : parseP J.D = some (J.ep, J.u, J.l)) (hlim : J.D.lim = false) (h5 : 5 ≤ J.D.now.length) (ht : J.D.now.length ≤ 65536) (hb : (appendP J s).2 = true) :
    parseP (appendP J s).1.D = some ((appendP J s).1.ep, (appendP J s).1.u, (appendP J s).1.l) ∧ (appendP J s).1.l = J.l ++ [s] ∧ (appendP J s).1.D.lim = false ∧ (appendP J s).1.D.now.length = J.D.now.length ∧ (appendP J s).1.D.log.length ≤ J.D.log.length + J.D.now.length := by
  have hh := hlf_half h5 ht
  have hw := wrs_free J.D hlim (appW J.D J.ep J.u s)
  unfold appendP at hb ⊢
  split at hb
  · cases hb
  · rename_i hfit
    rw [if_neg hfit, hw]
    simp only [if_true]
    refine ⟨append_all s hp (by omega) hh.1 hh.2, trivial, ?_, wN_len _ _, ?_⟩
    · have hl : ∀ (ws : List (Nat × ByteArray)) (D : Dev), (wN D ws).lim = D.lim := by
        intro ws
        induction ws with
        | nil => intro D; rfl
        | cons x ws ih => intro D; exact ih (D.write x.1 x.2)
      rw [hl]; exact hlim
    · rw [wN_log, List.length_append, lg_len]
      have := appW_len J.D J.ep J.u s
      omega
structure OpInv (w wr : World) (jb : Nat) (r : DRef) (vr : Value) (J : Jn) : Prop where
  d : DevIs wr r J.D
  j : JIs wr w.heap.size jb r.b vr J.ep J.u J.l
  p : parseP J.D = some (J.ep, J.u, J.l)
  lim : J.D.lim = false
  len : J.D.now.length = 100
  lo : ∀ k, r.foot k ∨ jfoot jb vr k → w.heap.size ≤ k
  bel : Below w.heap.size w wr
set_option maxHeartbeats 4000000 in
set_option maxRecDepth 100000 in
theorem opens_any (v : Value) (l : List ByteArray) (w : World) (h : StrsAt w v l) :
    Calls Tryz.prog 3 #[v] w fun e w' => e = .returned (.bool true) ∧ Below w.heap.size w w' := by
  obtain ⟨ao, c, rfl, hne⟩ := h.sl
  have H := Lib.hid h
  have HNE := Lib.hid hne
  clear h hne
  by_cases h8 : 8 < l.length
  · have h8' : (8 : Int) < (l.length : Int) := by omega
    go_enter Tryz.func3, Tryz.ntmps3
    go_wp2_with (go_at_call 9; refine (lives_any _).mono ?_; rintro e w5 ⟨rfl, b5⟩; have B5 := Lib.hid b5; clear b5)
    go_ret
    exact ⟨rfl, B5.out⟩
  · have h8' : ¬ (8 : Int) < (l.length : Int) := by omega
    have HN := Lib.hid (New_any 100 w (by omega) (by omega))
    have hfp := format_parse 100 (by omega) (by omega)
    have HD0 : Hid ((Dev.fresh 100).lim = false ∧ (Dev.fresh 100).now.length = 100 ∧ (Dev.fresh 100).log.length = 0) := ⟨rfl, by simp [Dev.fresh], rfl⟩
    have HD1 : Hid ((Dev.fresh 100).format.lim = false ∧ (Dev.fresh 100).format.now.length = 100 ∧ (Dev.fresh 100).format.log.length = 2) := ⟨rfl, by simp [Dev.format, Dev.write, Dev.fresh], rfl⟩
    have HFP := Lib.hid hfp
    clear hfp
    generalize Dev.fresh 100 = D0 at *
    go_enter Tryz.func3, Tryz.ntmps3
    go_wp2_with fail
    refine HN.out.mono ?_
    rintro e w2 ⟨r, rfl, d2, b2, f2⟩
    have HF := Lib.hid (Format_any r D0 w2 d2 HD0.out.1 (by rw [HD0.out.2.1]; omega) (by rw [HD0.out.2.2]; omega))
    have B2 := Lib.hid b2
    have F2 := Lib.hid f2
    clear d2 b2 f2
    go_wp2_with (refine HF.out.mono ?_; rintro e w3 ⟨rfl, r3, d3, k3⟩; have D3 := Lib.hid d3; have K3 := Lib.hid k3; clear d3 k3)
    have hr3 : r3.b = r.b := K3.out.b
    have B3 := Lib.hid (B2.out.trans (K3.out.fr.below B2.out.size (fun i hi => F2.out i hi)))
    have F3 : Hid (∀ k, r3.foot k → w.heap.size ≤ k) := by
      intro k hk
      by_cases h : k < w2.heap.size
      · exact F2.out k (K3.out.sub k h hk)
      · have := B2.out.size; omega
    have hjo := JOpen_any r3 D0.format w3 D3.out (by rw [HD1.out.2.1]; omega)
    rw [hr3] at hjo
    clear K3 B2 F2 HF HN
    refine hjo.mono ?_
    rintro e w4 ⟨b4, hp4⟩
    rw [HFP.out] at hp4
    simp only at hp4
    obtain ⟨jb, vr, rfl, hjb, hj4⟩ := hp4
    have B4 := Lib.hid (B3.out.trans (b4.mono B3.out.size))
    have I4 : Hid (OpInv w w4 jb r3 vr ⟨D0.format, 0, 0, []⟩) := by
      refine ⟨D3.out.below b4, ?_, HFP.out, HD1.out.1, HD1.out.2.1, ?_, B4.out⟩
      · rw [hr3]; exact hj4.base B3.out.size
      · rintro k (hk | rfl | hk)
        · exact F3.out k hk
        · have := B3.out.size; omega
        · have h1 := (own_base' hj4.hr hk).1
          have := B3.out.size; omega
    have HLG : Hid ((⟨D0.format, 0, 0, []⟩ : Jn).D.log.length ≤ 2 ∧ (⟨D0.format, 0, 0, []⟩ : Jn).l = []) := ⟨by show D0.format.log.length ≤ 2; rw [HD1.out.2.2]; omega, rfl⟩
    clear hjo b4 hj4 hjb B3 F3 D3 HD0 HD1 HFP B4
    generalize (⟨D0.format, 0, 0, []⟩ : Jn) = J0 at *
    go_wp2_with fail
    go_loopw [6] (fun iv wr => ∃ (i : Nat) (r2 : DRef) (vr2 : Value) (J : Jn), iv = .int .i64 i ∧ i ≤ l.length ∧ r2.b = r.b ∧ Hid (OpInv w wr jb r2 vr2 J) ∧ J.D.log.length ≤ 2 + 100 * i ∧ Hid (J.l = l.take i) ∧ Hid (∀ s ∈ l.take i, s.size ≤ 300)) (fun iv _ => l.length - (intOf iv).toNat)
    case atStart => exact ⟨0, r3, vr, J0, rfl, by omega, hr3, I4.out, by have := HLG.out.1; omega, by show _ = _; rw [HLG.out.2]; rfl, fun s hs => by simp at hs⟩
    case round =>
      obtain ⟨i, r2, vr2, J, rfl, hi, hrb, hI, hlg, hJl, hsz⟩ := hrel
      by_cases hic : i < l.length
      · have hic' : (i : Int) < (l.length : Int) := by omega
        have Hr := H.out.fr (Fr.of_below hI.out.bel Nowhere) (fun _ _ h => h)
        obtain ⟨b, o, rfl, k0⟩ := Hr.nth hic
        have htake : Hid (l.take (i + 1) = l.take i ++ [l[i]]) := List.take_succ_eq_append_getElem hic
        have BW := Lib.hid hI.out.bel
        clear Hr
        generalize l[i] = s at *
        by_cases hs : 300 < s.size
        · have hs' : (300 : Int) < (s.size : Int) := by omega
          go_wp2_with (go_at_call 9; refine (lives_any _).mono ?_; rintro e w5 ⟨rfl, b5⟩; have B5 := Lib.hid (BW.out.trans (b5.mono BW.out.size)); clear b5)
          go_ret
          exact ⟨rfl, B5.out⟩
        · have hs' : ¬ (300 : Int) < (s.size : Int) := by omega
          have hps := parse_size hI.out.p
          have hhl := hlf_half (D := J.D) (by rw [hI.out.len]; omega) (by rw [hI.out.len]; omega)
          have hap := Append_any r2 J jb w.heap.size vr2 s wr hI.out.d hI.out.j hI.out.bel.size (by omega) (by omega) (by omega) (by omega)
          have HAP := Lib.hid hap
          have hst := fun hb => append_step (s := s) hI.out.p hI.out.lim (by rw [hI.out.len]; omega) (by rw [hI.out.len]; omega) hb
          have HST := Lib.hid hst
          clear hap hst hps hhl
          rcases hb : (appendP J s).2 with _ | _
          · go_wp2_with (first
              | (go_at_call 13; refine HAP.out.mono ?_; rintro e w5 ⟨rfl, r5, vr5, d5, j5, e5, f5, s5, t5⟩; have B5 := Lib.hid (BW.out.trans (f5.below BW.out.size hI.out.lo)); clear d5 j5 f5 s5 t5; rw [hb]; simp only [okE, Bool.false_eq_true, if_false])
              | (go_at_call 9; refine (lives_any _).mono ?_; rintro e w6 ⟨rfl, b6⟩; have B6 := Lib.hid (B5.out.trans (b6.mono B5.out.size)); clear b6))
            go_ret
            exact ⟨rfl, B6.out⟩
          · go_wp2_with (go_at_call 13; refine HAP.out.mono ?_; rintro e w5 ⟨rfl, r5, vr5, d5, j5, e5, f5, s5, t5⟩; have D5 := Lib.hid d5; have J5 := Lib.hid j5; have F5 := Lib.hid f5; have S5 := Lib.hid s5; have T5 := Lib.hid t5; clear d5 j5 f5 s5 t5; rw [hb]; simp only [okE, if_true])
            have hst := HST.out hb
            have hr5 : r5.b = r.b := e5.trans hrb
            have hlg5 : (appendP J s).1.D.log.length ≤ 2 + 100 * (i + 1) := by have h1 := hst.2.2.2.2; have h2 := hI.out.len; omega
            have I5 : Hid (OpInv w w5 jb r5 vr5 (appendP J s).1) := by
              refine ⟨D5.out, by rw [e5]; exact J5.out, hst.1, hst.2.2.1, hst.2.2.2.1.trans hI.out.len, ?_, BW.out.trans (F5.out.below BW.out.size hI.out.lo)⟩
              intro k hk
              by_cases hkk : k < wr.heap.size
              · exact hI.out.lo k (hk.elim (fun h => .inl (S5.out k hkk h)) (fun h => .inr (T5.out k hkk h)))
              · have := BW.out.size; omega
            have HL5 : Hid ((appendP J s).1.l = l.take (i + 1)) := by show _ = _; rw [hst.2.1, htake.out, hJl.out]
            have HS5 : Hid (∀ q ∈ l.take (i + 1), q.size ≤ 300) := by
              show ∀ q ∈ _, _
              rw [htake.out]
              intro q hq
              rcases List.mem_append.1 hq with hq | hq
              · exact hsz.out q hq
              · rw [List.mem_singleton.1 hq]; omega
            go_roundw
            case rel => exact ⟨i + 1, r5, vr5, (appendP J s).1, by go_num, by omega, hr5, I5.out, hlg5, HL5.out, HS5.out⟩
            case measure => simp [intOf]; omega
      · have hic' : ¬ (i : Int) < (l.length : Int) := by omega
        obtain rfl : i = l.length := by omega
        have hJl2 := hJl.out
        have hsz2 := hsz.out
        rw [List.take_length] at hJl2 hsz2
        have hco := COpen_any r2 J.D wr hI.out.d (by rw [hI.out.len]; omega)
        rw [hrb] at hco
        have HCO := Lib.hid hco
        have HJ2 := Lib.hid hJl2
        have HSZ2 := Lib.hid hsz2
        have HP := Lib.hid hI.out.p
        have BW := Lib.hid hI.out.bel
        clear hJl hsz hJl2 hsz2 hco hI
        go_wp2_with fail
        refine HCO.out.mono ?_
        rintro e w5 ⟨b5, hp5⟩
        rw [HP.out] at hp5
        simp only [HJ2.out] at hp5
        have B5 := Lib.hid (BW.out.trans (b5.mono BW.out.size))
        have HLD := Lib.hid (RLoad_any _ l w5 (H.out.fr (Fr.of_below B5.out Nowhere) (fun _ _ h => h)) HSZ2.out (by omega))
        clear b5 HCO BW
        rcases hll : loadL l (-1) [] with _ | ⟨V, T⟩
        · rw [hll] at hp5
          simp only at hp5
          subst hp5
          go_wp2_with fail
          refine HLD.out.mono ?_
          rintro e w6 ⟨b6, hp6⟩
          rw [hll] at hp6
          simp only at hp6
          subst hp6
          have B6 := Lib.hid (B5.out.trans (b6.mono B5.out.size))
          clear b6 hll
          go_wp2_with (go_at_call 9; refine (lives_any _).mono ?_; rintro e w7 ⟨rfl, b7⟩; have B7 := Lib.hid (B6.out.trans (b7.mono B6.out.size)); clear b7)
          go_ret
          exact ⟨rfl, B7.out⟩
        · rw [hll] at hp5
          simp only at hp5
          obtain ⟨cb, jb', mb, n, vr', rfl, _, _, _, hn, hc⟩ := hp5
          have HC := Lib.hid hc
          clear hc
          go_wp2_with fail
          refine HLD.out.mono ?_
          rintro e w6 ⟨b6, hp6⟩
          rw [hll] at hp6
          simp only at hp6
          obtain ⟨tv, rfl, htv, hTl⟩ := hp6
          have hco := HC.out.below b6
          have hsm := Lib.hid (same_any cb jb' mb n V T (.slice none 0 0) tv w6 hco.c hco.m hco.so hco.fi (by omega) (by omega) htv)
          have B6 := Lib.hid (B5.out.trans (b6.mono B5.out.size))
          clear b6 hll hco
          obtain ⟨at_, ct, etv, _⟩ := htv.sl
          subst etv
          clear htv
          go_wp2_with (first
            | (go_at_call 16; refine hsm.out.mono ?_; rintro e w7 ⟨rfl, b7⟩; have B7 := Lib.hid (B6.out.trans (b7.mono B6.out.size)); clear b7)
            | (go_at_call 9; refine (lives_any _).mono ?_; rintro e w8 ⟨rfl, b8⟩; have B8 := Lib.hid (B7.out.trans (b8.mono B7.out.size)); clear b8))
          go_ret
          exact ⟨rfl, B8.out⟩
end Go.Proofs.YtjflcpkmoamijaaGreatDoor
