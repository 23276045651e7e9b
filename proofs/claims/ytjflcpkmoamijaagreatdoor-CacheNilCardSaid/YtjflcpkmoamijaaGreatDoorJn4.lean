import Derived.Test.YtjflcpkmoamijaaGreatDoorJn3
import Derived.BigQuiet
namespace Go.Proofs.YtjflcpkmoamijaaGreatDoor
open Go.RowKit
set_option linter.unusedVariables false
set_option linter.unusedSimpArgs false
set_option linter.unnecessarySimpa false

def ParsePost (D : Dev) (jb db : Nat) (w : World) (e : Ending) (w' : World) : Prop :=
  Fr w w' (· = jb) ∧ (match parseP D with | none => e = .panicked badForm | some (ep, u, l) => e = .returned (.tuple #[]) ∧ ∃ vr, JIs w' w.heap.size jb db vr ep u l)
theorem ParsePost.bad {D : Dev} {jb db : Nat} {w w' : World} (h : parseP D = none) (k : Fr w w' (· = jb)) : ParsePost D jb db w (.panicked badForm) w' := by
  unfold ParsePost; rw [h]; exact ⟨k, rfl⟩
theorem ParsePost.good {D : Dev} {jb db : Nat} {w w' : World} {ep u : Nat} {l : List ByteArray} (h : parseP D = some (ep, u, l)) (k : Fr w w' (· = jb)) {vr : Value} (hj : JIs w' w.heap.size jb db vr ep u l) : ParsePost D jb db w (.returned (.tuple #[])) w' := by
  unfold ParsePost; rw [h]; exact ⟨k, rfl, vr, hj⟩
theorem numJ_le {s : ByteArray} {most n : Nat} (h : numJ s most = some n) : n ≤ most := by
  unfold numJ at h
  split at h
  · rename_i h1
    injection h with h
    omega
  · cases h
theorem fst0_le {D : Dev} (ep : Nat) : fst0 D ep ≤ 1 + hlf D := by unfold fst0; split <;> omega
theorem wr_used (u c : Nat) (h : u + 1 + c ≤ 100000) : IntKind.i64.wrap ((u : Int) + IntKind.i64.wrap (1 + (c : Int))) = ((u + 1 + c : Nat) : Int) := by
  rw [IntKind.wrap_i64, IntKind.wrap_i64]; omega
theorem scanP_end {D : Dev} {a h k u : Nat} {l : List ByteArray} (hu : h ≤ u) : scanP D a h k u l = some (u, l) := by
  cases k with
  | zero => rfl
  | succ k => simp [scanP, hu]
theorem scanP_stop {D : Dev} {a h k u : Nat} {l : List ByteArray} (hu : u < h) (h0 : byteAt (blkS D (a + u)) 0 = 0) : scanP D a h (k + 1) u l = some (u, l) := by
  simp [scanP, Nat.not_le.2 hu, h0]
theorem scanP_form {D : Dev} {a h k u : Nat} {l : List ByteArray} (hu : u < h) (h0 : byteAt (blkS D (a + u)) 0 ≠ 0) (hn : numJ ((blkS D (a + u)).extract 1 64) 4194304 = none) : scanP D a h (k + 1) u l = none := by
  simp [scanP, Nat.not_le.2 hu, h0, hn]
theorem scanP_bad {D : Dev} {a h k u n : Nat} {l : List ByteArray} (hu : u < h) (h0 : byteAt (blkS D (a + u)) 0 ≠ 0) (hn : numJ ((blkS D (a + u)).extract 1 64) 4194304 = some n) (hb : byteAt (blkS D (a + u)) 0 ≠ 1 ∨ h < u + 1 + cnt n) : scanP D a h (k + 1) u l = none := by
  simp only [scanP, Nat.not_le.2 hu, h0, hn, if_false]
  rw [if_pos hb]
theorem scanP_next {D : Dev} {a h k u n : Nat} {l : List ByteArray} (hu : u < h) (h0 : byteAt (blkS D (a + u)) 0 = 1) (hn : numJ ((blkS D (a + u)).extract 1 64) 4194304 = some n) (hb : u + 1 + cnt n ≤ h) : scanP D a h (k + 1) u l = scanP D a h k (u + 1 + cnt n) (l ++ [(catS D (a + u + 1) (cnt n)).extract 0 n]) := by
  have h1 : ¬ byteAt (blkS D (a + u)) 0 = 0 := by omega
  simp only [scanP, Nat.not_le.2 hu, h1, hn, if_false]
  rw [if_neg (by omega)]
set_option maxHeartbeats 2000000 in
set_option maxRecDepth 100000 in
theorem parse_any (r : DRef) (D : Dev) (jb : Nat) (w : World) (h : DevIs w r D) (hj : JIs w w.heap.size jb r.b (.slice none 0 0) 0 0 []) :
    Calls Tryz.prog 40 #[.pointer (some ⟨jb, 0, none⟩)] w (ParsePost D jb r.b w) := by
  have hh := half_lt h
  have hd := Lib.hid (fun i (hi : r.foot i) (hij : i = jb) => jfoot_dev hj h (.inl hij) hi)
  have hp := h.ok.pos
  have H := Lib.hid h
  have J := Lib.hid hj
  have c0 := hj.c0
  have hlt := hj.lt
  clear h hj
  have hz0 : (blkS D 0).size = 64 := blkS_size H.out (by omega)
  go_enter Tryz.func40, Tryz.ntmps40
  go_wp2_with fail
  refine (block_any r D jb 0 _ H.out c0 (by omega)).mono ?_
  rintro e w2 ⟨rfl, rfl⟩
  go_wp2_with fail
  refine (Tryz.strings_HasPrefix _ _ _).mono ?_
  rintro e w2 ⟨rfl, rfl⟩
  rcases hpx : Lib.hasPrefix (blkS D 0).data.toList (#[77, 65, 80, 74] : Array UInt8).toList with _ | _
  · have hbad : parseP D = none := by unfold parseP; rw [if_pos hpx]
    go_wp2_with fail
    exact ⟨rfl, ParsePost.bad hbad (Fr.refl _ _)⟩
  · go_wp2_with fail
    have hN0 := number_any ((blkS D 0).extract 4 64) 2147483647 w2 (by simp only [ByteArray.size_extract]; omega) (by omega)
    refine hN0.mono ?_
    clear hN0
    rintro e w3 ⟨he, b3⟩
    have HP : Hid (parseP D = match numJ ((blkS D 0).extract 4 64) 2147483647 with | none => none | some ep => (scanP D (fst0 D ep) (hlf D) (hlf D) 0 []).map fun x => (ep, x.1, x.2)) := by
      show _ = _; unfold parseP; rw [if_neg (by simp [hpx])] <;> rfl
    rcases hnn : numJ ((blkS D 0).extract 4 64) 2147483647 with _ | ep
    · rw [hnn] at he HP
      subst he
      exact ⟨rfl, ParsePost.bad HP.out (Fr.of_below b3 _)⟩
    · have hep := numJ_le hnn
      rw [hnn] at he HP
      simp only at he
      subst he
      have F3 := Lib.hid (Fr.of_below b3 (· = jb))
      have J3 := J.out.fr (Fr.of_below b3 Nowhere) (fun _ _ h => h)
      have c1 := J3.c1
      have f1 := J3.fz 1
      have HJ3 := Lib.hid J3
      clear hnn hpx hz0 c0 b3 J3
      go_wp2_with fail
      have J4 := HJ3.out.put 1 (.int .i64 ep) (ep' := ep) rfl rfl
      have F4 := F3.out.setCell (⟨jb, 1, none⟩ : Addr) (.int .i64 ep) (fun _ => rfl)
      have H4 := Lib.hid (H.out.fr F4 (fun i hi hij => hd.out i hi hij))
      generalize w3.setCell ⟨jb, 1, none⟩ (.int .i64 ep) = w4 at *
      clear F3 HJ3 c1 f1
      have c0 := J4.c0
      have c1 := J4.c1
      have HJ4 := Lib.hid J4
      have HF4 := Lib.hid F4
      clear J4 F4
      go_quiet (first
        | (refine Calls.quiet_of_same (first_any r D ep _ ?_); exact H4.out.drewN _)
        | (refine Calls.quiet_of_same (half_any r D _ ?_); exact H4.out.drewN _))
      have J5 : Hid (JIs (w4.drewN nq) w2.heap.size jb r.b (.slice none 0 0) ep 0 []) := HJ4.out.drewN nq
      have F5 : Hid (Fr w2 (w4.drewN nq) (· = jb)) := HF4.out.drewN nq
      clear H4 c0 c1 HJ4 HF4
      generalize w4.drewN nq = w5 at *
      clear w4 w3
      have hfa := fst0_le (D := D) ep
      generalize fst0 D ep = a at *
      go_wp2_with fail
      go_loopg [5] (hlf D) (fun k _ wr => ∃ u l vr, u ≤ hlf D ∧ Hid (scanP D a (hlf D) (hlf D) 0 [] = scanP D a (hlf D) k u l) ∧ hlf D ≤ u + k ∧ Hid (JIs wr w2.heap.size jb r.b vr ep u l) ∧ Hid (Fr w2 wr (· = jb)) ∧ l.length ≤ u)
      case atStart => exact ⟨0, [], _, by omega, rfl, by omega, J5, F5, by simp⟩
      case round =>
        obtain ⟨u, l, vr, hu, hsc, huk, hJ, hF, hll⟩ := hrel
        have c2 := hJ.out.c2
        have c0 := hJ.out.c0
        by_cases hlt2 : u < hlf D
        · have hlt2' : (u : Int) < (hlf D : Int) := by omega
          obtain ⟨k, rfl⟩ : ∃ k, gk = k + 1 := ⟨gk - 1, by omega⟩
          obtain ⟨au, hau⟩ : ∃ au : Nat, (a : Int) + u = au := ⟨a + u, by simp⟩
          have HA : Hid (au = a + u) := by show au = a + u; omega
          have hau1 : au < D.now.length := by omega
          have Hr := Lib.hid (H.out.fr hF.out (fun i hi hij => hd.out i hi hij))
          have hz := Lib.hid (blkS_size Hr.out hau1)
          go_wp2_with fail
          refine (block_any r D jb au _ Hr.out c0 hau1).mono ?_
          rintro e wx ⟨rfl, rfl⟩
          have hbz : 0 < (blkS D au).size := by rw [hz.out]; omega
          have hb : byteAt (blkS D au) 0 = (blkS D au)[0].toNat := by simp [byteAt, hbz]
          have hz1 : (blkS D au).size = 64 := hz.out
          by_cases hc0 : byteAt (blkS D au) 0 = 0
          · have hv : (blkS D au)[0].toNat = 0 := by omega
            clear hb
            go_wp2_with fail
            go_end0
            refine ParsePost.good (ep := ep) (u := u) (l := l) ?_ hF.out hJ.out
            rw [HP.out, hsc.out, scanP_stop hlt2 (by rw [← HA.out]; exact hc0)]; rfl
          · have hv : (((blkS D au)[0].toNat : Int) == 0) = false := by rw [hb] at hc0; simp; omega
            have hB := Lib.hid hb
            have hC0 := Lib.hid hc0
            clear hb hc0
            go_wp2_with fail
            have hN0 := number_any ((blkS D au).extract 1 64) 4194304 wx (by simp only [ByteArray.size_extract]; omega) (by omega)
            refine hN0.mono ?_
            clear hN0
            rintro e w6 ⟨he, b6⟩
            have F6 := Lib.hid (hF.out.tr (Fr.of_below b6 _))
            have J6 := Lib.hid (hJ.out.fr (Fr.of_below b6 Nowhere) (fun _ _ h => h))
            have Hr6 := Lib.hid (Hr.out.below b6)
            rcases hnn : numJ ((blkS D au).extract 1 64) 4194304 with _ | n
            · rw [hnn] at he
              subst he
              exact ⟨rfl, ParsePost.bad (by rw [HP.out, hsc.out, scanP_form hlt2 (by rw [← HA.out]; exact hC0.out) (by rw [← HA.out]; exact hnn)]; rfl) F6.out⟩
            · have hn4 := numJ_le hnn
              rw [hnn] at he
              simp only at he
              subst he
              have HNN := Lib.hid hnn
              have hcn : cnt n ≤ 65536 := by unfold cnt; omega
              clear hnn b6 hJ hF Hr c0 c2 wx
              have c0 := J6.out.c0
              have c2 := J6.out.c2
              by_cases hc1 : byteAt (blkS D au) 0 = 1
              · have hv1 : (blkS D au)[0].toNat = 1 := by rw [← hB.out]; exact hc1
                go_wp2_with fail
                go_quiet (refine Calls.quiet_of_same (cnt_any n _ (by omega)))
                have J7 : Hid (JIs (w6.drewN nq) w2.heap.size jb r.b vr ep u l) := J6.out.drewN nq
                have F7 : Hid (Fr w2 (w6.drewN nq) (· = jb)) := F6.out.drewN nq
                have H7 : Hid (DevIs (w6.drewN nq) r D) := Hr6.out.drewN nq
                clear J6 F6 Hr6 c0 c2
                generalize w6.drewN nq = w7 at *
                clear w6
                by_cases hfit : u + 1 + cnt n ≤ hlf D
                · have hfit' : ¬ (hlf D : Int) < (u : Int) + 1 + (cnt n : Int) := by omega
                  go_wp2_with (refine (cnt_any n _ (by omega)).mono ?_; rintro e w8 ⟨rfl, rfl⟩)
                  have hbl : w7.heap.size < (w7.alloc (.cells #[.pointer none, .slice none 0 0] 116)).heap.size := by simp
                  have hbld := Lib.fresh_isBuilder 116 5 w7
                  have J8 : JIs (w7.alloc (.cells #[.pointer none, .slice none 0 0] 116)) w2.heap.size jb r.b vr ep u l := J7.out.fr ((Fr.refl _ Nowhere).alloc _) (fun _ _ h => h)
                  have B8 : Below w7.heap.size w7 (w7.alloc (.cells #[.pointer none, .slice none 0 0] 116)) := (Below.refl _ _).alloc (Nat.le_refl _) _
                  have HBL := Lib.hid hbld
                  have HB8 := Lib.hid B8
                  generalize w7.alloc (.cells #[.pointer none, .slice none 0 0] 116) = w8 at *
                  clear hbld B8 J8
                  go_loopg [75] (cnt n) (fun k v wr => ∃ i : Nat, v = .int .i64 i ∧ i ≤ cnt n ∧ cnt n ≤ i + k ∧ Hid (Lib.IsBuilder 116 5 w7.heap.size w7.heap.size (Lib.byteCells (catL D (au + 1) i)) wr) ∧ Hid (Below w7.heap.size w7 wr))
                  case atStart => exact ⟨0, rfl, by omega, by omega, HBL.out, HB8.out⟩
                  case round =>
                    obtain ⟨i, rfl, hi, hik, hB, hW⟩ := hrel
                    have Jr := Lib.hid (J7.out.fr (Fr.of_below hW.out Nowhere) (fun _ _ h => h))
                    have Hr := Lib.hid (H7.out.below hW.out)
                    by_cases hic : i < cnt n
                    · have hic' : (i : Int) < (cnt n : Int) := by omega
                      have c2 := Jr.out.c2
                      have c0 := Jr.out.c0
                      obtain ⟨ai, hai⟩ : ∃ ai : Nat, (au : Int) + 1 + i = ai := ⟨au + 1 + i, by simp⟩
                      have hai1 : ai < D.now.length := by omega
                      have HAI : Hid (ai = au + 1 + i) := by show ai = _; omega
                      go_wp2_with fail
                      refine (block_any r D jb ai _ Hr.out c0 hai1).mono ?_
                      rintro e wx ⟨rfl, rfl⟩
                      go_wp2_with fail
                      have hcl := catL_len Hr.out (au + 1) i (by omega)
                      refine (WriteString_any w7.heap.size w7.heap.size _ (blkS D ai) _ hB.out (by rw [Lib.byteCells_length, hcl, blkS_size Hr.out hai1]; omega) hW.out.size).mono ?_
                      clear hcl
                      rintro e w9 ⟨rfl, hB9, hW9⟩
                      obtain ⟨gk', rfl⟩ : ∃ g, gk = g + 1 := ⟨gk - 1, by omega⟩
                      have HB9 : Hid (Lib.IsBuilder 116 5 w7.heap.size w7.heap.size (Lib.byteCells (catL D (au + 1) (i + 1))) w9) := by
                        have e1 : Lib.byteCells (catL D (au + 1) (i + 1)) = Lib.byteCells (catL D (au + 1) i) ++ Lib.strCells (blkS D ai) := by
                          rw [catL_succ, ← HAI.out]; simp [Lib.byteCells, Lib.strCells, blkS]
                        rw [e1]; exact Or.inr hB9
                      have HW9 := Lib.hid (hW.out.trans hW9)
                      clear hB9 hW9
                      go_wp2_with fail
                      go_roundg gk'
                      case rel => exact ⟨i + 1, by go_num, by omega, by omega, HB9.out, HW9.out⟩
                      case measure => omega
                    · have hic' : ¬ (i : Int) < (cnt n : Int) := by omega
                      go_wp2_with fail
                      obtain rfl : i = cnt n := by omega
                      have c3 := Jr.out.c3
                      refine region_seq (fun w' => w'.cell? ⟨jb, 3, none⟩ = some vr) [12]
                        [(.p, 0), (.p, 1), (.p, 2), (.p, 3), (.q, 4), (.p, 6), (.l, 5), (.p, 7), (.l, 8), (.l, 9), (.p, 10), (.p, 11), (.d, 12)] (by kernel_rfl) (by kernel_rfl) (by kernel_rfl) (by kernel_rfl) (fun d v c a w h => by cases d <;> exact h) ?_
                      have hS : wr.drew.cell? ⟨jb, 3, none⟩ = some vr := c3
                      (refine seq_p (N := some 91) rfl rfl (by rfl) ?_ (fun w' => ?_) ?_
                       rotate_left
                       · go_simp
                         with_reducible rfl
                       simp only [Act.put, List.setIfInBounds_toArray, List.set_cons_zero, List.set_cons_succ])
                      (refine seq_p (N := some 92) rfl rfl (by rfl) ?_ (fun w' => ?_) ?_
                       rotate_left
                       · go_simp
                         with_reducible rfl
                       simp only [Act.put, List.setIfInBounds_toArray, List.set_cons_zero, List.set_cons_succ])
                      (refine seq_p (N := some 93) rfl rfl (by rfl) ?_ (fun w' => ?_) ?_
                       rotate_left
                       · go_simp
                         with_reducible rfl
                       simp only [Act.put, List.setIfInBounds_toArray, List.set_cons_zero, List.set_cons_succ])
                      (refine seq_p (N := some 94) rfl rfl (by rfl) ?_ (fun w' => ?_) ?_
                       rotate_left
                       · go_simp
                         with_reducible rfl
                       simp only [Act.put, List.setIfInBounds_toArray, List.set_cons_zero, List.set_cons_succ])
                      (refine seq_q (N := some 95) rfl rfl (by rfl) ?_ ?_ hS ?_
                       rotate_left
                       · rintro w' s1
                         go_simp
                         with_reducible rfl
                       simp only [Act.put, List.setIfInBounds_toArray, List.set_cons_zero, List.set_cons_succ])
                      (refine seq_p (N := some 97) rfl rfl (by rfl) ?_ (fun w' => ?_) ?_
                       rotate_left
                       · go_simp
                         with_reducible rfl
                       simp only [Act.put, List.setIfInBounds_toArray, List.set_cons_zero, List.set_cons_succ])
                      refine seq_l rfl (by rfl) (wp_cl (N := some 96) (f := 73) (vs := #[.pointer (some ⟨w7.heap.size, 0, none⟩)]) rfl rfl (by simp [Act.eval]) (callF Tryz.func73 rfl (by decide) _ _) ?_)
                      have hsx : n ≤ (catS D (au + 1) (cnt n)).size := by
                        have := catL_len Hr.out (au + 1) (cnt n) (by omega)
                        simp only [catS, ByteArray.size, List.size_toArray, this]; unfold cnt; omega
                      refine (Tryz.Builder_String_any w7.heap.size w7.heap.size (catL D (au + 1) (cnt n)) wr.drew hB.out hW.out.drew.size).mono ?_
                      rintro e w10 ⟨rfl, hb10⟩
                      have W10 := Lib.hid (hW.out.drew.trans hb10)
                      have J10 := Lib.hid (J7.out.fr (Fr.of_below W10.out Nowhere) (fun _ _ h => h))
                      clear hb10
                      have hcat : (⟨(catL D (au + 1) (cnt n)).toArray⟩ : ByteArray) = catS D (au + 1) (cnt n) := rfl
                      rw [hcat]
                      clear hcat
                      have HNext : Hid (scanP D a (hlf D) (hlf D) 0 [] = scanP D a (hlf D) k (u + 1 + cnt n) (l ++ [(catS D (au + 1) (cnt n)).extract 0 n])) := by
                        show _ = _
                        rw [hsc.out, scanP_next hlt2 (by rw [← HA.out]; exact hc1) (by rw [← HA.out]; exact HNN.out) hfit, ← HA.out]
                      generalize catS D (au + 1) (cnt n) = sx at *
                      refine ⟨_, rfl, ?_⟩
                      simp only [Act.put, List.setIfInBounds_toArray, List.set_cons_zero, List.set_cons_succ]
                      refine ⟨fun _ => J10.out.c3, ?_⟩
                      have hS : w10.cell? ⟨jb, 3, none⟩ = some vr := J10.out.c3
                      (refine seq_p (N := some 98) rfl rfl (by rfl) ?_ (fun w' => ?_) ?_
                       rotate_left
                       · go_simp
                         with_reducible rfl
                       simp only [Act.put, List.setIfInBounds_toArray, List.set_cons_zero, List.set_cons_succ])
                      refine seq_l rfl (by rfl) (wp_bs (N := some 99) (ps := #[(0, .string (sx.extract 0 n))]) rfl rfl (by simp [Act.eval]) (run_bs_str _ _) ?_)
                      simp only [Act.put, List.setIfInBounds_toArray, List.set_cons_zero, List.set_cons_succ]
                      refine ⟨fun _ => (Below.cell ((Below.refl _ _).alloc (Nat.le_refl _) _) (by exact J10.out.lt)).trans hS, ?_⟩
                      have hB2 : w2.heap.size ≤ w10.heap.size := Nat.le_trans F7.out.size W10.out.size
                      refine seq_l rfl (by rfl) (wp_app1 (W := w10) (N := some 100) #[.string (sx.extract 0 n)] _ _ 22 9 (.string ⟨#[]⟩) 1 16 w2.heap.size rfl rfl Tryz.underlying22 info_str rfl (by omega) (by omega) vr l.length (l.map .string) rfl rfl rfl (by simp [Value.oneCell']) J10.out.hr hB2 (by omega) ?_)
                      intro v4 w11 hown4 hg4 hat4
                      simp only [Act.put, List.setIfInBounds_toArray, List.set_cons_zero, List.set_cons_succ]
                      have hne4 : vr.ownBlock ≠ some jb := fun e => own_ne J10.out.hr J10.out.hb (by decide) e rfl
                      have hc11 : w11.cell? ⟨jb, 3, none⟩ = some vr := (World.cell?_of_block (hg4.block _ J10.out.lt (fun e => hne4 e.symm))).trans hS
                      have hf11 : w11.frozen? ⟨jb, 3, none⟩ = false := (World.frozen?_of_block (hg4.block _ J10.out.lt (fun e => hne4 e.symm))).trans (J10.out.fz 3)
                      refine ⟨fun _ => hc11, ?_⟩
                      (refine seq_p (N := some 101) rfl rfl (by rfl) ?_ (fun w' => ?_) ?_
                       rotate_left
                       · go_simp
                         with_reducible rfl
                       simp only [Act.put, List.setIfInBounds_toArray, List.set_cons_zero, List.set_cons_succ])
                      (refine seq_p (N := some 102) rfl rfl (by rfl) ?_ (fun w' => ?_) ?_
                       rotate_left
                       · go_simp
                         with_reducible rfl
                       simp only [Act.put, List.setIfInBounds_toArray, List.set_cons_zero, List.set_cons_succ])
                      refine seq_d rfl (by rfl) (wp_st rfl rfl rfl rfl (store1 _ _ jb 3 v4 vr (own_cell hown4) (by kernel_rfl) hc11 hf11) ?_)
                      refine seq_nil ?_
                      have J12 := Lib.hid (J10.out.push (sx.extract 0 n) hg4 hown4)
                      have F12 : Fr w2 (w11.setCell ⟨jb, 3, none⟩ v4) (· = jb) :=
                        ((F7.out.tr (Fr.of_below W10.out _)).trans (Fr.grown (S := fun k => vr.ownBlock = some k) hg4 (fun k hk _ => hk)) (fun i hi hk => by have := (own_base' J10.out.hr hk).1; omega)).setCell ⟨jb, 3, none⟩ v4 (fun _ => rfl)
                      have HF12 := Lib.hid F12
                      clear F12 hown4 hg4 hat4 hne4 hc11 hf11 hS hB2 J10 W10 hsx
                      generalize w11.setCell ⟨jb, 3, none⟩ v4 = w12 at *
                      clear w11 c3 hB hik hic hic' hi Jr Hr hW
                      have c2 := J12.out.c2
                      have f2 := J12.out.fz 2
                      go_wp2_with fail
                      refine region_seq (fun w' => w'.cell? ⟨jb, 2, none⟩ = some (.int .i64 u)) [10]
                        [(.p, 0), (.p, 1), (.p, 2), (.q, 3), (.p, 4), (.l, 5), (.p, 6), (.p, 7), (.p, 8), (.p, 9), (.d, 10)] (by kernel_rfl) (by kernel_rfl) (by kernel_rfl) (by kernel_rfl) (fun d v c a w h => by cases d <;> exact h) ?_
                      have hS : w12.drew.cell? ⟨jb, 2, none⟩ = some (.int .i64 u) := c2
                      (refine seq_p (N := some 103) rfl rfl (by rfl) ?_ (fun w' => ?_) ?_
                       rotate_left
                       · go_simp
                         with_reducible rfl
                       simp only [Act.put, List.setIfInBounds_toArray, List.set_cons_zero, List.set_cons_succ])
                      (refine seq_p (N := some 104) rfl rfl (by rfl) ?_ (fun w' => ?_) ?_
                       rotate_left
                       · go_simp
                         with_reducible rfl
                       simp only [Act.put, List.setIfInBounds_toArray, List.set_cons_zero, List.set_cons_succ])
                      (refine seq_p (N := some 105) rfl rfl (by rfl) ?_ (fun w' => ?_) ?_
                       rotate_left
                       · go_simp
                         with_reducible rfl
                       simp only [Act.put, List.setIfInBounds_toArray, List.set_cons_zero, List.set_cons_succ])
                      (refine seq_q (N := some 106) rfl rfl (by rfl) ?_ ?_ hS ?_
                       rotate_left
                       · rintro w' s1
                         go_simp
                         with_reducible rfl
                       simp only [Act.put, List.setIfInBounds_toArray, List.set_cons_zero, List.set_cons_succ])
                      (refine seq_p (N := some 107) rfl rfl (by rfl) ?_ (fun w' => ?_) ?_
                       rotate_left
                       · go_simp
                         with_reducible rfl
                       simp only [Act.put, List.setIfInBounds_toArray, List.set_cons_zero, List.set_cons_succ])
                      refine seq_l rfl (by rfl) (wp_cl (N := some 108) (f := 42) (vs := #[.int .i64 n]) rfl rfl (by simp [Act.eval]) (callF Tryz.func42 rfl (by decide) _ _) ?_)
                      refine (cnt_any n _ (by omega)).mono ?_
                      rintro e w13 ⟨rfl, rfl⟩
                      refine ⟨_, rfl, ?_⟩
                      simp only [Act.put, List.setIfInBounds_toArray, List.set_cons_zero, List.set_cons_succ]
                      refine ⟨fun h => h, ?_⟩
                      (refine seq_p (N := some 109) rfl rfl (by rfl) ?_ (fun w' => ?_) ?_
                       rotate_left
                       · go_simp
                         with_reducible rfl
                       simp only [Act.put, List.setIfInBounds_toArray, List.set_cons_zero, List.set_cons_succ])
                      (refine seq_p (N := some 110) rfl rfl (by rfl) ?_ (fun w' => ?_) ?_
                       rotate_left
                       · go_simp
                         with_reducible rfl
                       simp only [Act.put, List.setIfInBounds_toArray, List.set_cons_zero, List.set_cons_succ])
                      (refine seq_p (N := some 111) rfl rfl (by rfl) ?_ (fun w' => ?_) ?_
                       rotate_left
                       · go_simp
                         with_reducible rfl
                       simp only [Act.put, List.setIfInBounds_toArray, List.set_cons_zero, List.set_cons_succ])
                      (refine seq_p (N := some 112) rfl rfl (by rfl) ?_ (fun w' => ?_) ?_
                       rotate_left
                       · go_simp
                         with_reducible rfl
                       simp only [Act.put, List.setIfInBounds_toArray, List.set_cons_zero, List.set_cons_succ])
                      have hwr := wr_used u (cnt n) (by omega)
                      rw [hwr]
                      refine seq_d rfl (by rfl) (wp_st rfl rfl rfl rfl (store1 _ _ jb 2 (.int .i64 ((u + 1 + cnt n : Nat) : Int)) _ rfl (by kernel_rfl) c2 f2) ?_)
                      refine seq_nil ?_
                      have J14 := Lib.hid ((J12.out.drewN 1).put 2 (.int .i64 ((u + 1 + cnt n : Nat) : Int)) (u' := u + 1 + cnt n) rfl rfl)
                      have F14 := Lib.hid ((HF12.out.drewN 1).setCell ⟨jb, 2, none⟩ (.int .i64 ((u + 1 + cnt n : Nat) : Int)) (fun _ => rfl))
                      clear hS c2 f2 J12 HF12 hwr
                      have hdr : w12.drewN 1 = w12.drew := rfl
                      rw [hdr] at J14 F14
                      clear hdr
                      generalize w12.drew.setCell ⟨jb, 2, none⟩ (.int .i64 ((u + 1 + cnt n : Nat) : Int)) = w14 at *
                      go_wp2_with fail
                      go_roundg k
                      case rel => exact ⟨u + 1 + cnt n, l ++ [sx.extract 0 n], v4, by omega, HNext.out, by omega, J14.out, F14.out, by simp; omega⟩
                      case measure => omega
                · have hfit' : (hlf D : Int) < (u : Int) + 1 + (cnt n : Int) := by omega
                  go_wp2_with fail
                  exact ⟨rfl, ParsePost.bad (by rw [HP.out, hsc.out, scanP_bad hlt2 (by rw [← HA.out]; exact hC0.out) (by rw [← HA.out]; exact HNN.out) (.inr (by omega))]; rfl) F7.out⟩
              · have hv1 : (((blkS D au)[0].toNat : Int) != 1) = true := by rw [hB.out] at hc1; simp; omega
                go_wp2_with fail
                go_quiet (fail)
                go_wp2_with fail
                exact ⟨rfl, ParsePost.bad (by rw [HP.out, hsc.out, scanP_bad hlt2 (by rw [← HA.out]; exact hC0.out) (by rw [← HA.out]; exact HNN.out) (.inl (by rw [← HA.out]; exact hc1))]; rfl) (F6.out.drewN _)⟩
        · have hlt2' : ¬ (u : Int) < (hlf D : Int) := by omega
          go_wp2_with fail
          go_end0
          refine ParsePost.good (ep := ep) (u := u) (l := l) ?_ hF.out hJ.out
          rw [HP.out, hsc.out, scanP_end (by omega)]; rfl
end Go.Proofs.YtjflcpkmoamijaaGreatDoor
