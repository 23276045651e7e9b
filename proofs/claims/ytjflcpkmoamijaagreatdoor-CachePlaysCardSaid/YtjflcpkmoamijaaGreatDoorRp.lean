import Derived.Test.YtjflcpkmoamijaaGreatDoorRo
namespace Go.Proofs.YtjflcpkmoamijaaGreatDoor
open Go.RowKit
set_option linter.unusedVariables false
set_option linter.unusedSimpArgs false
set_option linter.unnecessarySimpa false

theorem TGood.nil : TGood [] := ⟨List.Pairwise.nil, (fun b hb => by cases hb), (fun b hb => by cases hb)⟩
def LoadPost (l : List ByteArray) (w : World) (e : Ending) (w' : World) : Prop :=
  Below w.heap.size w w' ∧ (match loadL l (-1) [] with
    | none => e = .returned (.tuple #[.int .i64 0, .slice none 0 0, .int .i64 4])
    | some (V, T) => ∃ tv, e = .returned (.tuple #[.int .i64 V, tv, .int .i64 0]) ∧ BlobsAt w' tv T ∧ T.length ≤ 1000000)
theorem StrsAt.nth {w : World} {ao : Option Addr} {n c : Nat} {l : List ByteArray} (h : StrsAt w (.slice ao n c) l) {i : Nat} (hi : i < l.length) : ∃ b o, ao = some ⟨b, o, none⟩ ∧ w.cell? ⟨b, o + i, none⟩ = some (.string (l[i])) := by
  obtain ⟨ao', c', e, h0⟩ := h.sl
  obtain ⟨b, o, e2⟩ := h0 (by intro q; subst q; simp at hi)
  injection e with e _ _
  rw [e2] at e
  subst e
  refine ⟨b, o, rfl, h.at_ b o n c rfl i _ ?_⟩
  rw [List.getElem?_map, List.getElem?_eq_getElem hi]; rfl
set_option maxHeartbeats 2000000 in
set_option maxRecDepth 100000 in
theorem RLoad_any (v : Value) (l : List ByteArray) (w : World) (h : StrsAt w v l) (hs : ∀ s ∈ l, s.size ≤ 300) (hl : l.length ≤ 8) :
    Calls Tryz.prog 15 #[v] w (LoadPost l w) := by
  obtain ⟨ao, c, rfl, hne⟩ := h.sl
  have H := Lib.hid h
  have HNE := Lib.hid hne
  have HSZ := Lib.hid hs
  clear h hne hs
  go_enter Tryz.func15, Tryz.ntmps15
  go_wp2_with fail
  go_loopw [5, 6, 7] (fun lv tv iv wr => ∃ (i : Nat) (ver : Int) (T : List Bl), lv = .int .i64 ver ∧ iv = .int .i64 i ∧ i ≤ l.length ∧ T.length ≤ 300 * i ∧ Hid (loadL l (-1) [] = loadL (l.drop i) ver T) ∧ Hid (TGood T) ∧ Hid (BlobsAt wr tv T) ∧ Hid (Below w.heap.size w wr)) (fun _ _ iv _ => l.length - (intOf iv).toNat)
  case atStart => exact ⟨0, -1, [], rfl, rfl, by omega, by simp, rfl, TGood.nil, BlobsAt.nil_any (w := w) ⟨none, 0, rfl⟩ w, Below.refl _ _⟩
  case round =>
    obtain ⟨i, ver, T, rfl, rfl, hi, hT, hL, hG, hb, hB⟩ := hrel
    by_cases hic : i < l.length
    · have hic' : (i : Int) < (l.length : Int) := by omega
      have Hr := H.out.fr (Fr.of_below hB.out Nowhere) (fun _ _ h => h)
      obtain ⟨b, o, rfl, k0⟩ := Hr.nth hic
      have hsz := HSZ.out (l[i]) (List.getElem_mem hic)
      have hstep : loadL (l.drop i) ver T = if recOk (l[i]) ver then loadL (l.drop (i + 1)) (decP (l[i])).1 (applyT T (decP (l[i])).2.1) else none := by
        rw [List.drop_eq_getElem_cons hic, loadL]
      have HST := Lib.hid hstep
      clear hstep Hr
      generalize l[i] = s at *
      have hdl := dec_len s (by omega)
      have hdf := Lib.hid (dec_fits (s := s) (by omega))
      go_wp2_with fail
      refine (rparse_any s wr (by omega)).mono ?_
      rintro e w5 ⟨v5, rfl, o5, b5⟩
      have B5 := Lib.hid (hB.out.trans (b5.mono hB.out.size))
      have T5 := Lib.hid (hb.out.fr (Fr.of_below b5 Nowhere) (fun _ _ h => h))
      have D5 := Lib.hid (own_blobs o5)
      have hro : recOk s ver = ((decP s).2.2 && decide (ver < (decP s).1) && decide ((decP s).1 ≤ 2147483647) && ordB (decP s).2.1) := rfl
      have HRO := Lib.hid hro
      clear b5 o5 k0 hro hb hB
      generalize decP s = dp at *
      obtain ⟨dv, dl, dok⟩ := dp
      simp only at hdl hdf HST D5 HRO
      have hbad : recOk s ver = false → Hid (LoadPost l w (.returned (.tuple #[.int .i64 0, .slice none 0 0, .int .i64 4])) w5) := by
        intro hf
        refine ⟨B5.out, ?_⟩
        rw [hL.out, HST.out, hf]
        simp
      cases dok
      · have HP := hbad (by rw [HRO.out]; simp)
        clear hbad
        go_wp2_with fail
        go_ret3
        exact HP.out
      · by_cases h1 : dv ≤ ver
        · have HP := hbad (by rw [HRO.out]; simp; intros; omega)
          clear hbad
          go_wp2_with fail
          go_ret3
          exact HP.out
        · by_cases h2 : 2147483647 < dv
          · have HP := hbad (by rw [HRO.out]; simp; intros; omega)
            clear hbad
            go_wp2_with fail
            go_ret3
            exact HP.out
          · have hord := Lib.hid (ROrdered_any v5 dl w5 D5.out (by omega))
            have HBAD := Lib.hid hbad
            clear hbad
            rcases hob : ordB dl with _ | _
            · have HP := HBAD.out (by rw [HRO.out, hob]; simp)
              rw [hob] at hord
              go_wp2_with (refine hord.out.mono ?_; rintro e w6 ⟨rfl, b6⟩)
              go_ret3
              refine ⟨HP.out.1.trans (b6.mono HP.out.1.size), ?_⟩
              have h3 := HP.out.2
              cases hll : loadL l (-1) [] with
              | none => rfl
              | some q =>
                rw [hll] at h3
                simp at h3
            · have hf := hdf.out hob
              rw [hob] at hord
              have hnext : Hid (loadL l (-1) [] = loadL (l.drop (i + 1)) dv (applyT T dl)) := by
                show _ = _
                have hr : recOk s ver = true := by rw [HRO.out, hob]; simp; omega
                rw [hL.out, HST.out, if_pos hr]
              have hgd : Hid (TGood (applyT T dl)) := hG.out.apply hf (ord_ok hob)
              have hln : (applyT T dl).length ≤ 300 * (i + 1) := by have := apply_len dl T; omega
              have HLN := Lib.hid hln
              have HOB := Lib.hid hob
              have HFF := Lib.hid hf
              clear hln hob hf
              go_wp2_with (refine hord.out.mono ?_; rintro e w6 ⟨rfl, b6⟩; have B6 := Lib.hid (B5.out.trans (b6.mono B5.out.size)); have T6 := Lib.hid (T5.out.fr (Fr.of_below b6 Nowhere) (fun _ _ h => h)); have D6 := Lib.hid (D5.out.fr (Fr.of_below b6 Nowhere) (fun _ _ h => h)); clear b6)
              refine (RPatch_any u6 v5 T dl w6 T6.out hG.out D6.out HOB.out HFF.out (by omega)).mono ?_
              rintro e w7 ⟨v7, rfl, V7, b7⟩
              have B7 := Lib.hid (B6.out.trans (b7.mono B6.out.size))
              have HV7 := Lib.hid V7
              clear V7 b7
              go_wp2_with fail
              go_roundw
              case rel => exact ⟨i + 1, dv, _, rfl, by go_num, by omega, HLN.out, hnext.out, hgd.out, HV7.out, B7.out⟩
              case measure => simp [intOf]; omega
    · have hic' : ¬ (i : Int) < (l.length : Int) := by omega
      have hfin : Hid (loadL l (-1) [] = some (ver, T)) := by show _ = _; rw [hL.out, List.drop_of_length_le (by omega)]; rfl
      go_wp2_with fail
      go_ret3
      refine ⟨hB.out, ?_⟩
      rw [hfin.out]
      exact ⟨_, rfl, hb.out, by omega⟩
end Go.Proofs.YtjflcpkmoamijaaGreatDoor
