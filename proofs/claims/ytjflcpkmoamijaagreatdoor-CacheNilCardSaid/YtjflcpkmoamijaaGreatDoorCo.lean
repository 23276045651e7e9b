import Derived.Test.YtjflcpkmoamijaaGreatDoorLo
namespace Go.Proofs.YtjflcpkmoamijaaGreatDoor
open Go.RowKit
set_option linter.unusedVariables false
set_option linter.unusedSimpArgs false
set_option linter.unnecessarySimpa false

theorem own_blobs {w : World} {B : Nat} {v : Value} {l : List Bl} (h : w.ownsRow B 93 4 v l.length (l.flatMap Bl.cells)) : BlobsAt w v l := by
  rcases h.2 with ⟨rfl, h0⟩ | ⟨g, cap, cur, rfl, hb, hg, hn, hm, hs, ht⟩
  · have : l = [] := List.eq_nil_of_length_eq_zero h0
    subst this
    exact ⟨⟨none, 0, rfl, fun h => absurd rfl h⟩, fun b o n c hv => by cases hv⟩
  · refine ⟨⟨_, cap, rfl, fun _ => ⟨g, 0, rfl⟩⟩, fun b o n c hv => ?_⟩
    injection hv with hv _ _
    injection hv with hv
    injection hv with h1 h2
    subst h1; subst h2
    intro j u hj
    have hj2 : j < l.length * 4 := by
      have := (List.getElem?_eq_some_iff.1 hj).1
      rw [flat_len Bl.cells 4 l (fun _ _ => rfl)] at this
      exact this
    have := World.ownsRow.cellAt h j hj2
    rw [Nat.zero_add, this]; exact hj
structure CIs (w : World) (B cb jb db mb n : Nat) (vr : Value) (ver : Int) (ep u : Nat) (l : List ByteArray) (T : List Bl) : Prop where
  c : CCell w cb jb mb ver
  j : JIs w B jb db vr ep u l
  m : MapIs w mb n T
  so : Sorted T
  fi : Fits T
theorem CIs.fr {w w' : World} {B cb jb db mb n : Nat} {vr : Value} {ver : Int} {ep u : Nat} {l : List ByteArray} {T : List Bl} {S : Nat → Prop} (h : CIs w B cb jb db mb n vr ver ep u l T) (k : Fr w w' S) (h1 : ¬ S cb) (h2 : ¬ S mb) (h3 : ∀ i, jfoot jb vr i → ¬ S i) : CIs w' B cb jb db mb n vr ver ep u l T :=
  ⟨h.c.fr k h1, h.j.fr k h3, h.m.fr k h2, h.so, h.fi⟩
theorem CIs.below {w w' : World} {B cb jb db mb n : Nat} {vr : Value} {ver : Int} {ep u : Nat} {l : List ByteArray} {T : List Bl} (h : CIs w B cb jb db mb n vr ver ep u l T) (k : Below w.heap.size w w') : CIs w' B cb jb db mb n vr ver ep u l T :=
  h.fr (Fr.of_below k Nowhere) (fun h => h) (fun h => h) (fun _ _ h => h)
structure OInv (w wr : World) (cb jb db mb n : Nat) (vr : Value) (ver : Int) (ep u : Nat) (l : List ByteArray) (T : List Bl) (v : Value) : Prop where
  ci : CIs wr w.heap.size cb jb db mb n vr ver ep u l T
  own : wr.ownsRow w.heap.size 9 1 v l.length (l.map .string)
  bel : Below w.heap.size w wr
theorem own_map_ne {w : World} {B b n : Nat} {T : List Bl} {e : TypeId} {size k : Nat} {v : Value} {xs : List Value} (h : w.ownsRow B e size v k xs) (hm : MapIs w b n T) {i : Nat} (hi : v.ownBlock = some i) : i ≠ b := by
  obtain ⟨c, hc⟩ := own_elem h hi
  exact hm.ne_cells hc
def COpenPost (D : Dev) (db : Nat) (w : World) (e : Ending) (w' : World) : Prop :=
  Below w.heap.size w w' ∧ (match parseP D with
    | none => e = .returned (.tuple #[.pointer none, .int .i64 4])
    | some (ep, u, l) => (match loadL l (-1) [] with
      | none => e = .returned (.tuple #[.pointer none, .int .i64 4])
      | some (ver, T) => ∃ cb jb mb n vr, e = .returned (.tuple #[.pointer (some ⟨cb, 0, none⟩), .int .i64 0]) ∧ w.heap.size ≤ cb ∧ w.heap.size ≤ jb ∧ w.heap.size ≤ mb ∧ n ≤ 100000000 ∧ CIs w' w.heap.size cb jb db mb n vr ver ep u l T))
theorem sumS_take_succ (l : List ByteArray) (i : Nat) (h : i < l.length) : sumS (l.take (i + 1)) = sumS (l.take i) + (l[i]).size := by
  rw [List.take_succ_eq_append_getElem h, sumS_app]
theorem sumS_take_le : ∀ (l : List ByteArray) (i : Nat), sumS (l.take i) ≤ sumS l
  | [], i => by simp
  | s :: r, 0 => by simp [sumS]
  | s :: r, i + 1 => by
    have := sumS_take_le r i
    simp [sumS] at *; omega
theorem COpen_nil (w : World) :
    Calls Tryz.prog 14 #[.pointer none] w fun e w' => e = .returned (.tuple #[.pointer none, .int .i64 1]) ∧ Below w.heap.size w w' := by
  go_enter Tryz.func14, Tryz.ntmps14
  go_wp2_with fail
  refine (JOpen_nil w).mono ?_
  rintro e w2 ⟨rfl, hb⟩
  go_wp2_with fail
  go_ret2
  exact ⟨rfl, hb⟩
theorem COpen_short (r : DRef) (D : Dev) (w : World) (h : DevIs w r D) (h5 : D.now.length < 5) :
    Calls Tryz.prog 14 #[.pointer (some ⟨r.b, 0, none⟩)] w fun e w' => e = .returned (.tuple #[.pointer none, .int .i64 12]) ∧ Below w.heap.size w w' := by
  have H := Lib.hid h
  clear h
  go_enter Tryz.func14, Tryz.ntmps14
  go_wp2_with fail
  refine (JOpen_short r D w H.out h5).mono ?_
  rintro e w2 ⟨rfl, hb⟩
  go_wp2_with fail
  go_ret2
  exact ⟨rfl, hb⟩
set_option maxHeartbeats 1000000 in
set_option maxRecDepth 100000 in
theorem COpen_any (r : DRef) (D : Dev) (w : World) (h : DevIs w r D) (h5 : 5 ≤ D.now.length) :
    Calls Tryz.prog 14 #[.pointer (some ⟨r.b, 0, none⟩)] w (COpenPost D r.b w) := by
  have hh := half_lt h
  have H := Lib.hid h
  clear h
  have hmm := @run_makeMap Tryz.prog
  go_enter Tryz.func14, Tryz.ntmps14
  go_wp2_with fail
  refine (JOpen_any r D w H.out h5).mono ?_
  rintro e w2 ⟨hb2, hp⟩
  have HB2 := Lib.hid hb2
  clear hb2
  rcases hpp : parseP D with _ | ⟨ep, u, l⟩
  · rw [hpp] at hp
    simp only at hp
    subst hp
    have HP : Hid (COpenPost D r.b w (.returned (.tuple #[.pointer none, .int .i64 4])) w2) := ⟨HB2.out, by rw [hpp]⟩
    clear hpp
    go_wp2_with fail
    go_ret2
    exact HP.out
  · rw [hpp] at hp
    obtain ⟨jb, vr, rfl, hjb, hj⟩ := hp
    have hps := parse_size hpp
    have hll : l.length ≤ 1000000 := by omega
    have hss : sumS l ≤ 64 * 32767 := by omega
    have HPP := Lib.hid hpp
    have HJ := Lib.hid hj
    have hjlt := hj.lt
    clear hpp hj hps
    go_wp2_with fail
    have j3 : JIs ((w2.alloc (.map #[] 0)).alloc (.cells #[.pointer (some ⟨jb, 0, none⟩), .int .i64 (-1), .map (some w2.heap.size)] 84)) w.heap.size jb r.b vr ep u l := HJ.out.fr (((Fr.refl _ Nowhere).alloc _).alloc _) (fun _ _ h => h)
    have m3 : MapIs ((w2.alloc (.map #[] 0)).alloc (.cells #[.pointer (some ⟨jb, 0, none⟩), .int .i64 (-1), .map (some w2.heap.size)] 84)) w2.heap.size 0 [] := (MapIs.made w2).fr ((Fr.refl _ Nowhere).alloc _) (fun h => h)
    have c3 : CCell ((w2.alloc (.map #[] 0)).alloc (.cells #[.pointer (some ⟨jb, 0, none⟩), .int .i64 (-1), .map (some w2.heap.size)] 84)) (w2.heap.size + 1) jb w2.heap.size (-1) := by
      have := heap_alloc_new (w2.alloc (.map #[] 0)) (.cells #[.pointer (some ⟨jb, 0, none⟩), .int .i64 (-1), .map (some w2.heap.size)] 84)
      simp only [World.size_alloc] at this
      exact this
    have b3 : Below w.heap.size w ((w2.alloc (.map #[] 0)).alloc (.cells #[.pointer (some ⟨jb, 0, none⟩), .int .i64 (-1), .map (some w2.heap.size)] 84)) := (HB2.out.alloc HB2.out.size _).alloc (by have := HB2.out.size; simp; omega) _
    have CI3 : Hid (CIs ((w2.alloc (.map #[] 0)).alloc (.cells #[.pointer (some ⟨jb, 0, none⟩), .int .i64 (-1), .map (some w2.heap.size)] 84)) w.heap.size (w2.heap.size + 1) jb r.b w2.heap.size 0 vr (-1) ep u l []) :=
      ⟨c3, j3, m3, List.Pairwise.nil, fun b hb => by cases hb⟩
    have B3 := Lib.hid b3
    have hs2 := HB2.out.size
    clear j3 m3 c3 b3 HJ HB2 hjlt
    generalize (w2.alloc (.map #[] 0)).alloc (.cells #[.pointer (some ⟨jb, 0, none⟩), .int .i64 (-1), .map (some w2.heap.size)] 84) = w3 at *
    obtain ⟨mb, hmb⟩ : ∃ mb, mb = w2.heap.size := ⟨_, rfl⟩
    obtain ⟨cb, hcb⟩ : ∃ cb, cb = w2.heap.size + 1 := ⟨_, rfl⟩
    rw [← hcb, ← hmb] at CI3 ⊢
    have hcb1 : w.heap.size ≤ cb := by omega
    have hmb1 : w.heap.size ≤ mb := by omega
    clear hcb hmb hs2
    refine (JRecords_any jb r.b w.heap.size ep u vr l w3 CI3.out.j hll).mono ?_
    rintro e w4 ⟨v', rfl, ho, hb⟩
    have I4 : Hid (OInv w w4 cb jb r.b mb 0 vr (-1) ep u l [] v') := ⟨CI3.out.below hb, own_base_le B3.out.size ho, B3.out.trans (hb.mono B3.out.size)⟩
    clear ho hb CI3 B3 w3
    obtain ⟨ao, cap, rfl⟩ : ∃ ao cap, v' = .slice ao l.length cap := by
      rcases I4.out.own.2 with ⟨hv, h0⟩ | ⟨g, cap, cur, hv, _⟩
      · exact ⟨none, 0, by rw [hv, h0]⟩
      · exact ⟨_, cap, hv⟩
    go_wp2_with fail
    go_loopw [27] (fun v wr => ∃ (i : Nat) (ver : Int) (T : List Bl) (n : Nat), v = .int .i64 i ∧ i ≤ l.length ∧ Hid (loadL l (-1) [] = loadL (l.drop i) ver T) ∧ n ≤ sumS (l.take i) ∧ Hid (OInv w wr cb jb r.b mb n vr ver ep u l T (.slice ao l.length cap))) (fun v _ => l.length - (intOf v).toNat)
    case atStart => exact ⟨0, -1, [], 0, rfl, by omega, rfl, by simp [sumS], I4.out⟩
    case round =>
      obtain ⟨i, ver, T, n, rfl, hi, hL, hn, hI⟩ := hrel
      by_cases hic : i < l.length
      · have hic' : (i : Int) < (l.length : Int) := by omega
        obtain ⟨g, rfl⟩ : ∃ g, ao = some ⟨g, 0, none⟩ := by
          rcases hI.out.own.2 with ⟨_, h0⟩ | ⟨g, cap', cur, hv, _⟩
          · omega
          · injection hv with hv; exact ⟨g, hv⟩
        have k0 := hI.out.own.cellAt i (by omega)
        rw [List.getElem?_map, List.getElem?_eq_getElem hic] at k0
        simp only [Option.map_some] at k0
        have hsum := sumS_take_succ l i hic
        have hsum2 := sumS_take_le l (i + 1)
        have hstep : loadL (l.drop i) ver T = if recOk (l[i]) ver then loadL (l.drop (i + 1)) (decP (l[i])).1 (applyT T (decP (l[i])).2.1) else none := by
          rw [List.drop_eq_getElem_cons hic, loadL]
        have HST := Lib.hid hstep
        clear hstep
        generalize l[i] = s at *
        have hsz : s.size ≤ 1000000000 := by omega
        have hdl := dec_len s hsz
        have hdf := Lib.hid (dec_fits hsz)
        go_wp2_with fail
        refine (decode_any s wr hsz).mono ?_
        rintro e w5 ⟨v5, rfl, o5, b5⟩
        have B5 := Lib.hid b5
        have HB5 := Lib.hid (hI.out.bel.trans (b5.mono hI.out.bel.size))
        have CI5 := Lib.hid (hI.out.ci.below b5)
        have R5 := Lib.hid ((Fr.of_below b5 Nowhere).owns hI.out.own (fun _ _ h => h))
        have O5 := Lib.hid o5
        have hro : recOk s ver = ((decP s).2.2 && decide (ver < (decP s).1) && decide ((decP s).1 ≤ 2147483647) && ordB (decP s).2.1) := rfl
        have HRO := Lib.hid hro
        clear b5 o5 k0 hI hro
        generalize decP s = dp at *
        obtain ⟨dv, dl, dok⟩ := dp
        simp only at hdl hdf HST O5 HRO
        have hbad : recOk s ver = false → Hid (COpenPost D r.b w (.returned (.tuple #[.pointer none, .int .i64 4])) w5) := by
          intro hf
          refine ⟨HB5.out, ?_⟩
          rw [HPP.out]
          simp only
          rw [hL.out, HST.out, hf]
          simp
        have c1 := CI5.out.c.c1
        cases dok
        · have HP := hbad (by rw [HRO.out]; simp)
          clear hbad
          go_wp2_with fail
          go_ret2
          exact HP.out
        · by_cases h1 : dv ≤ ver
          · have HP := hbad (by rw [HRO.out]; simp; intros; omega)
            clear hbad
            go_wp2_with fail
            go_ret2
            exact HP.out
          · by_cases h2 : 2147483647 < dv
            · have HP := hbad (by rw [HRO.out]; simp; intros; omega)
              clear hbad
              go_wp2_with fail
              go_ret2
              exact HP.out
            · have hord := Lib.hid (ordered_any v5 dl w5 (own_blobs O5.out) (by omega))
              have HBAD := Lib.hid hbad
              clear hbad
              rcases hob : ordB dl with _ | _
              · have HP := HBAD.out (by rw [HRO.out, hob]; simp)
                go_wp2_with (go_at_call 47; refine hord.out.mono ?_; rintro e w6 ⟨rfl, b6⟩; rw [hob])
                go_ret2
                refine ⟨HP.out.1.trans (b6.mono HP.out.1.size), ?_⟩
                rw [HPP.out]
                have h3 := HP.out.2
                rw [HPP.out] at h3
                simp only at h3 ⊢
                cases hll : loadL l (-1) [] with
                | none => rfl
                | some q =>
                  rw [hll] at h3
                  simp at h3
              · have hf := hdf.out hob
                have hnl : n + dl.length ≤ 1000000000 := by omega
                have hnext : Hid (loadL l (-1) [] = loadL (l.drop (i + 1)) dv (applyT T dl)) := by
                  show _ = _
                  rw [hL.out, HST.out, HRO.out, hob, if_pos (by simp; omega)]
                have hnn : n + dl.length ≤ sumS (l.take (i + 1)) := by omega
                have HFF := Lib.hid hf
                clear hf
                go_wp2_with (first
                  | (go_at_call 47; refine hord.out.mono ?_; rintro e w6 ⟨rfl, b6⟩; rw [hob])
                  | (go_at_call 48
                     have CI6 := CI5.out.below b6
                     have O6 := (Fr.of_below b6 Nowhere).owns O5.out (fun _ _ h => h)
                     refine (apply_any cb jb mb n ver dv v5 T dl w6 CI6.c CI6.m (own_blobs O6) (fun e => own_ne O6 CI6.c (by decide) e rfl) HFF.out hnl).mono ?_
                     rintro e w7 ⟨rfl, hc7, hm7, hf7⟩
                     have R6 := (Fr.of_below b6 Nowhere).owns R5.out (fun _ _ h => h)
                     have HI7 : Hid (OInv w w7 cb jb r.b mb (n + dl.length) vr dv ep u l (applyT T dl) (.slice (some ⟨g, 0, none⟩) l.length cap)) := by
                       refine ⟨⟨hc7, CI6.j.fr hf7 ?_, hm7, CI6.so.apply _, CI6.fi.apply HFF.out⟩, hf7.owns R6 ?_, (HB5.out.trans (b6.mono HB5.out.size)).trans (hf7.below (Nat.le_trans HB5.out.size b6.size) (by rintro k (rfl | rfl) <;> assumption))⟩
                       · rintro k (rfl | hk) (e | e)
                         · exact ne_of_elem CI6.j.hb CI6.c (by decide) e
                         · exact CI6.m.ne_cells CI6.j.hb e
                         · exact own_ne CI6.j.hr CI6.c (by decide) hk e
                         · exact own_map_ne CI6.j.hr CI6.m hk e
                       · rintro k hk (e | e)
                         · exact own_ne R6 CI6.c (by decide) hk e
                         · exact own_map_ne R6 CI6.m hk e
                     clear hc7 hm7 hf7 CI6 O6 R6))
                go_roundw
                case rel => exact ⟨i + 1, dv, _, n + dl.length, by go_num, by omega, hnext.out, hnn, HI7.out⟩
                case measure => simp [intOf]; omega
      · have hic' : ¬ (i : Int) < (l.length : Int) := by omega
        go_wp2_with fail
        go_ret2
        refine ⟨hI.out.bel, ?_⟩
        rw [HPP.out]
        simp only
        rw [hL.out, List.drop_eq_nil_of_le (by omega)]
        simp only [loadL]
        have := sumS_take_le l i
        exact ⟨cb, jb, mb, n, vr, rfl, hcb1, hjb, hmb1, by omega, hI.out.ci⟩
end Go.Proofs.YtjflcpkmoamijaaGreatDoor
