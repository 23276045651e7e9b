import Derived.Test.YtjflcpkmoamijaaGreatDoorCr
namespace Go.Proofs.YtjflcpkmoamijaaGreatDoor
open Go.RowKit
set_option linter.unusedVariables false
set_option linter.unusedSimpArgs false
set_option linter.unnecessarySimpa false

theorem info_ref : (Tryz.prog.info? 40).map (fun i => (i.zero, i.size, i.bytes)) = some (some (.agg #[.slice none 0 0, .int .i64 0, .slice none 0 0]), 3, 56) := by kernel_rfl
theorem info_int : (Tryz.prog.info? 3).map (fun i => (i.zero, i.size, i.bytes)) = some (some (.int .i64 0), 1, 8) := by kernel_rfl
theorem row_new (w : World) (B : Nat) (e : TypeId) (size : Nat) (xs : List Value) (hB : B ≤ w.heap.size) (hx : xs.length = size) : (w.alloc (.cells xs.toArray e)).ownsRow B e size (.slice (some ⟨w.heap.size, 0, none⟩) 1 1) 1 xs := by
  subst hx
  exact ⟨by simp, .inr ⟨w.heap.size, 1, _, rfl, hB, heap_alloc_new w _, by omega, by unfold maxLen; omega, by simp, by simp⟩⟩
theorem mem_bang {S : List Ent} {i : Nat} (hi : i < S.length) : S[i]! ∈ S := by
  rw [List.getElem!_eq_getElem?_getD, List.getElem?_eq_getElem hi]
  exact List.getElem_mem hi
theorem int_cell {w : World} {B : Nat} {ae : Option Addr} {n c : Nat} {S : List Ent} (h : w.ownsRow B 3 1 (.slice ae n c) S.length (S.map Ent.ev)) {i : Nat} (hi : i < S.length) : ∃ g, ae = some ⟨g, 0, none⟩ ∧ w.cell? ⟨g, i, none⟩ = some (.int .i64 (S[i]!.e : Nat)) := by
  rcases h.2 with ⟨_, h0⟩ | ⟨g, cap', cur, hv, h2⟩
  · omega
  · injection hv with hv h3 h4
    subst hv; subst h3
    refine ⟨g, rfl, ?_⟩
    have k0 := h.cellAt i (by omega)
    rw [List.getElem?_map, List.getElem?_eq_getElem hi] at k0
    rw [List.getElem!_eq_getElem?_getD, List.getElem?_eq_getElem hi]
    exact k0
theorem ent_cell {w : World} {B : Nat} {ae : Option Addr} {n c : Nat} {S : List Ent} (h : w.ownsRow B 40 3 (.slice ae n c) S.length (S.flatMap Ent.cells)) {i : Nat} (hi : i < S.length) :
    ∃ g, ae = some ⟨g, 0, none⟩ ∧ w.cell? ⟨g, i * 3, none⟩ = some (.slice none 0 0) ∧ w.cell? ⟨g, i * 3 + 1, none⟩ = some (.int .i64 S[i]!.ver) ∧ w.cell? ⟨g, i * 3 + 2, none⟩ = some S[i]!.v := by
  rcases h.2 with ⟨_, h0⟩ | ⟨g, cap', cur, hv, h2⟩
  · omega
  · injection hv with hv h3 h4
    subst hv; subst h3
    refine ⟨g, rfl, ?_⟩
    have e : S[i]! = S[i] := by rw [List.getElem!_eq_getElem?_getD, List.getElem?_eq_getElem hi]; rfl
    have k : ∀ j, j < 3 → w.cell? ⟨g, i * 3 + j, none⟩ = (S[i]).cells[j]? := by
      intro j hj
      have k0 := h.cellAt (i * 3 + j) (by omega)
      rw [flat_get Ent.cells 3 S i j (fun _ _ => rfl) hi hj] at k0
      exact k0
    rw [e]
    exact ⟨k 0 (by omega), k 1 (by omega), k 2 (by omega)⟩
set_option maxHeartbeats 4000000 in
set_option maxRecDepth 100000 in
theorem crash_any (blocks : Int) (v : Value) (L : List Opv) (w : World) (h : OpsAt w v L) :
    Calls Tryz.prog 7 #[.int .i64 blocks, v] w fun e w' => e = .returned (.bool true) ∧ Below w.heap.size w w' := by
  obtain ⟨ao, c, rfl, hne⟩ := h.sl
  have H := Lib.hid h
  have HNE := Lib.hid hne
  clear h hne
  go_enter Tryz.func7, Tryz.ntmps7
  go_wp2_with fail
  refine (few_any blocks _ L w H.out).mono ?_
  rintro e w ⟨β, rfl, rfl, hfew⟩
  have HFEW := Lib.hid hfew
  clear hfew
  cases β with
  | false =>
    go_wp2_with (go_at_call 9; refine (lives_any _).mono ?_; rintro e w5 ⟨rfl, b5⟩; have B5 := Lib.hid b5; clear b5)
    go_ret
    exact ⟨rfl, B5.out⟩
  | true =>
    have hF := HFEW.out rfl
    obtain ⟨hb40, hL8, hl⟩ := hF
    have HL := Lib.hid hl
    clear hl HFEW
    by_cases h5 : blocks < 5
    · go_wp2_with (go_at_call 9; refine (lives_any _).mono ?_; rintro e w5 ⟨rfl, b5⟩; have B5 := Lib.hid b5; clear b5)
      go_ret
      exact ⟨rfl, B5.out⟩
    · have h5' : 5 ≤ blocks := by omega
      obtain ⟨nb, rfl⟩ : ∃ nb : Nat, blocks = nb := ⟨blocks.toNat, by omega⟩
      have hnb : 5 ≤ nb ∧ nb ≤ 40 := by omega
      go_wp2_with fail
      refine (start_any nb w hnb.1 (by omega) (format_parse nb hnb.1 (by omega))).mono ?_
      rintro e w5 ⟨r, cb, jb, mb, n, vr, rfl, c5, hn5, b5, f5⟩
      have L5 : Hid (Live w5 w.heap.size r cb jb mb n vr ⟨⟨(Dev.fresh nb).format, 0, 0, []⟩, -1, []⟩) := ⟨c5, f5, b5.size, start_good nb hnb.1 (by omega)⟩
      have B5 := Lib.hid b5
      have hC0 : Hid ((⟨⟨(Dev.fresh nb).format, 0, 0, []⟩, -1, []⟩ : Cn).J.D.log.length = 2 ∧ (⟨⟨(Dev.fresh nb).format, 0, 0, []⟩, -1, []⟩ : Cn).J.D.now.length = nb ∧ (⟨⟨(Dev.fresh nb).format, 0, 0, []⟩, -1, []⟩ : Cn).T.length = 0) :=
        ⟨rfl, by simp [Dev.format, Dev.write, Dev.fresh], rfl⟩
      clear c5 b5 f5
      generalize (⟨⟨(Dev.fresh nb).format, 0, 0, []⟩, -1, []⟩ : Cn) = C0 at *
      go_wp2_with (go_at_call 27; refine (Version_any cb jb mb C0.ver w5 L5.out.ci.2.c).mono ?_; rintro e w5 ⟨rfl, rfl⟩)
      refine (Tiles_any cb jb mb n C0.ver C0.T w5 L5.out.ci.2.c L5.out.ci.2.m L5.out.ci.2.so L5.out.ci.2.fi (by omega)).mono ?_
      rintro e w6 ⟨v6, rfl, o6, b6⟩
      obtain ⟨ao6, cp6, rfl⟩ := own_slice o6
      have O6 := Lib.hid (own_base_le B5.out.size o6)
      have L6 := Lib.hid (L5.out.below b6)
      have B6 := Lib.hid (B5.out.trans (b6.mono B5.out.size))
      clear o6 b6 L5 B5
      go_wp2_with fail
      have b7 := (Below.refl w6.heap.size w6).alloc (Nat.le_refl _) (.cells #[.slice none 0 0, .int .i64 C0.ver, .slice ao6 C0.T.length cp6] 40)
      have S7 := Lib.hid (row_new w6 w.heap.size 40 3 [.slice none 0 0, .int .i64 C0.ver, .slice ao6 C0.T.length cp6] B6.out.size rfl)
      have L7 := Lib.hid (L6.out.below b7)
      have B7 := Lib.hid (B6.out.trans (b7.mono B6.out.size))
      have O7 := Lib.hid ((Fr.of_below b7 Nowhere).owns O6.out (fun _ _ h => h))
      clear b7 O6 L6 B6
      obtain ⟨s7, hs7⟩ : ∃ s7, w6.heap.size = s7 := ⟨_, rfl⟩
      rw [hs7] at S7 ⊢
      generalize w6.alloc (.cells #[.slice none 0 0, .int .i64 C0.ver, .slice ao6 C0.T.length cp6] 40) = w7 at *
      clear hs7
      refine (Writes_any r C0.J.D w7 L7.out.ci.1).mono ?_
      rintro e w7 ⟨rfl, rfl⟩
      have b8 := (Below.refl w7.heap.size w7).alloc (Nat.le_refl _) (.cells #[.int .i64 C0.J.D.log.length] 3)
      have E8 := Lib.hid (row_new w7 w.heap.size 3 1 [.int .i64 C0.J.D.log.length] B7.out.size rfl)
      have L8 := L7.out.below b8
      have I8 : Hid (CrInv w (w7.alloc (.cells #[.int .i64 C0.J.D.log.length] 3)) cb jb mb r n vr C0 [⟨C0.ver, .slice ao6 C0.T.length cp6, C0.T, C0.J.D.log.length⟩] (.slice (some ⟨s7, 0, none⟩) 1 1) (.slice (some ⟨w7.heap.size, 0, none⟩) 1 1)) := by
        refine ⟨L8, B7.out.trans (b8.mono B7.out.size), ?_, E8.out, fun x hx => ?_⟩
        · exact (Fr.of_below b8 Nowhere).owns S7.out (fun _ _ h => h)
        · rw [List.mem_singleton.1 hx]
          exact (Fr.of_below b8 Nowhere).owns O7.out (fun _ _ h => h)
      have HI8 : Hid (CrHist C0 [⟨C0.ver, .slice ao6 C0.T.length cp6, C0.T, C0.J.D.log.length⟩] nb 0) :=
        ⟨rfl, ⟨rfl, rfl, rfl⟩, fun j hj => absurd hj (Nat.not_lt_zero _), by rw [hC0.out.1]; omega, hC0.out.2.1, by rw [hC0.out.2.2]; omega, fun j hj => by
          obtain rfl : j = 0 := by omega
          show C0.T.length ≤ _
          rw [hC0.out.2.2]; omega⟩
      clear b8 L8 E8 S7 L7 B7 O7 hC0
      go_wp2_with fail
      go_loopw [8, 9, 10] (fun sv ev iv wr => ∃ (i : Nat) (r2 : DRef) (n2 : Nat) (vr2 : Value) (C : Cn) (S : List Ent), iv = .int .i64 i ∧ i ≤ L.length ∧ r2.b = r.b ∧ n2 ≤ 100000000 + 1000 * i ∧ Hid (CrInv w wr cb jb mb r2 n2 vr2 C S sv ev) ∧ Hid (CrHist C S nb i)) (fun _ _ iv _ => L.length - (intOf iv).toNat)
      case atStart => exact ⟨0, r, n, vr, C0, _, rfl, by omega, rfl, by omega, I8.out, HI8.out⟩
      case round =>
        obtain ⟨i, r2, n2, vr2, C, S, rfl, hi, hrb, hn2, hI, hH⟩ := hrel
        by_cases hic : i < L.length
        · have hic' : (i : Int) < (L.length : Int) := by omega
          obtain ⟨b, o, rfl, hbl⟩ := HNE.out (by intro h; subst h; simp at hic)
          have Or := Lib.hid (H.out.fr (Fr.of_below hI.out.bel Nowhere) (fun _ _ h => h))
          have hx := range3 (Or.out.nth i hic)
          have hop := Or.out.op _ (List.getElem_mem hic)
          have hop0 := H.out.op _ (List.getElem_mem hic)
          have hll := HL.out _ (List.getElem_mem hic)
          generalize L[i] = x at *
          obtain ⟨k0, k1, k2⟩ := hx
          obtain ⟨xk, xver, xv, xl⟩ := x
          simp only at k0 k1 k2 hll
          have TX : Hid (TAt wr cb jb mb r2 vr2 xv xl) := ⟨hop.b, fun h0 k hk => hI.out.live.old (hop0.lt h0 k hk)⟩
          have HXI : Hid (InInt xver) := hop.i
          have HLL := Lib.hid hll
          have hn3 : n2 ≤ 200000000 := by omega
          have hlog : C.J.D.log.length ≤ 500 := by
            have h1 := hH.out.lg
            have : i * nb ≤ 8 * 40 := Nat.mul_le_mul (by omega) (by omega)
            omega
          have hTl : C.T.length ≤ 64 := by have := hH.out.tl; omega
          clear hop hop0 hll
          by_cases h0 : xk = 0
          focus
            subst h0
            go_wp2_with fail
            refine region_seq (fun w' => w'.cell? ⟨b, o + i * 3 + 1, none⟩ = some (.int .i64 xver) ∧ w'.cell? ⟨b, o + i * 3 + 2, none⟩ = some xv) []
              [(.p, 0), (.p, 1), (.p, 2), (.p, 3), (.p, 4), (.q, 5), (.p, 6), (.p, 7), (.p, 8), (.p, 9), (.q, 10), (.l, 11)] (by kernel_rfl) (by kernel_rfl) (by kernel_rfl) (by kernel_rfl) (fun d v c a w h => by cases d <;> exact h) ?_
            have hS : wr.drew.cell? ⟨b, o + i * 3 + 1, none⟩ = some (.int .i64 xver) ∧ wr.drew.cell? ⟨b, o + i * 3 + 2, none⟩ = some xv := ⟨k1, k2⟩
            (refine seq_p (N := some 56) rfl rfl (by rfl) ?_ (fun w' => ?_) ?_
             rotate_left
             · go_simp
               with_reducible rfl
             simp only [Act.put, List.setIfInBounds_toArray, List.set_cons_zero, List.set_cons_succ])
            (refine seq_p (N := some 57) rfl rfl (by rfl) ?_ (fun w' => ?_) ?_
             rotate_left
             · go_simp
               with_reducible rfl
             simp only [Act.put, List.setIfInBounds_toArray, List.set_cons_zero, List.set_cons_succ])
            (refine seq_p (N := some 58) rfl rfl (by rfl) ?_ (fun w' => ?_) ?_
             rotate_left
             · go_simp
               with_reducible rfl
             simp only [Act.put, List.setIfInBounds_toArray, List.set_cons_zero, List.set_cons_succ])
            (refine seq_p (N := some 59) rfl rfl (by rfl) ?_ (fun w' => ?_) ?_
             rotate_left
             · go_simp
               with_reducible rfl
             simp only [Act.put, List.setIfInBounds_toArray, List.set_cons_zero, List.set_cons_succ])
            (refine seq_p (N := some 60) rfl rfl (by rfl) ?_ (fun w' => ?_) ?_
             rotate_left
             · go_simp
               with_reducible rfl
             simp only [Act.put, List.setIfInBounds_toArray, List.set_cons_zero, List.set_cons_succ])
            (refine seq_q (N := some 61) rfl rfl (by rfl) ?_ ?_ hS ?_
             rotate_left
             · rintro w' ⟨s1, s2⟩
               go_simp
               with_reducible rfl
             simp only [Act.put, List.setIfInBounds_toArray, List.set_cons_zero, List.set_cons_succ])
            (refine seq_p (N := some 62) rfl rfl (by rfl) ?_ (fun w' => ?_) ?_
             rotate_left
             · go_simp
               with_reducible rfl
             simp only [Act.put, List.setIfInBounds_toArray, List.set_cons_zero, List.set_cons_succ])
            (refine seq_p (N := some 63) rfl rfl (by rfl) ?_ (fun w' => ?_) ?_
             rotate_left
             · go_simp
               with_reducible rfl
             simp only [Act.put, List.setIfInBounds_toArray, List.set_cons_zero, List.set_cons_succ])
            (refine seq_p (N := some 64) rfl rfl (by rfl) ?_ (fun w' => ?_) ?_
             rotate_left
             · go_simp
               with_reducible rfl
             simp only [Act.put, List.setIfInBounds_toArray, List.set_cons_zero, List.set_cons_succ])
            (refine seq_p (N := some 65) rfl rfl (by rfl) ?_ (fun w' => ?_) ?_
             rotate_left
             · go_simp
               with_reducible rfl
             simp only [Act.put, List.setIfInBounds_toArray, List.set_cons_zero, List.set_cons_succ])
            (refine seq_q (N := some 66) rfl rfl (by rfl) ?_ ?_ hS ?_
             rotate_left
             · rintro w' ⟨s1, s2⟩
               go_simp
               with_reducible rfl
             simp only [Act.put, List.setIfInBounds_toArray, List.set_cons_zero, List.set_cons_succ])
            have bd : Below wr.heap.size wr wr.drew := (Below.refl _ _).drew
            have Id := Lib.hid (hI.out.below bd)
            have Td := Lib.hid (TX.out.move (CMove.below bd))
            refine seq_l rfl (by rfl) (wp_cl (N := some 67) (f := 22) (vs := #[.pointer (some ⟨cb, 0, none⟩), .int .i64 xver, xv]) rfl rfl (by simp [Act.eval]) (callF Tryz.func22 rfl (by decide) _ _) ?_)
            refine (Id.out.live.put xver xv xl Td.out HXI.out (by have := HLL.out.1; omega) (fun b hb => by have := HLL.out.2 b hb; omega) (by omega) (by omega)).mono ?_
            rintro e w10 ⟨rfl, r10, vr10, n10, hn10, l10, hr10, m10⟩
            have hps := put_step Id.out.live.g xver xl (by have := HLL.out.1; omega) (fun b hb => by have := HLL.out.2 b hb; omega)
            have HPS := Lib.hid hps
            have HG0 := Lib.hid hI.out.live.g
            have HTL : Hid ((putC C xver xl).1.T.length ≤ C.T.length + 8) := by
              show _ ≤ _
              have h1 := putC_T (C := C) (ver := xver) (l := xl)
              have h2 := HLL.out.1
              omega
            have I10 := Lib.hid (Id.out.move m10 l10)
            refine ⟨_, rfl, ?_⟩
            simp only [Act.put, List.setIfInBounds_toArray, List.set_cons_zero, List.set_cons_succ]
            have hbo := Id.out.live.old hbl
            refine ⟨fun _ => ⟨(World.cell?_of_block (m10.fr.block b hbo.1 hbo.2)).trans hS.1, (World.cell?_of_block (m10.fr.block b hbo.1 hbo.2)).trans hS.2⟩, ?_⟩
            refine seq_nil ?_
            have hr10' : r10.b = r.b := hr10.trans hrb
            have hnn : n10 ≤ 100001000 + 1000 * i := by omega
            clear hps l10 m10 Id Td k0 k1 k2 TX hI hrb hr10 hS bd hbo
            generalize (putC C xver xl).1 = C' at *
            go_wp2_with fail
          rotate_left
          by_cases h1 : xk = 1
          focus
            subst h1
            go_wp2_with fail
            refine (hI.out.live.compact (by omega) (by omega) (by omega)).mono ?_
            rintro e w10 ⟨rfl, r10, vr10, n10, hn10, l10, hr10, m10⟩
            have hps := compact_step hI.out.live.g (by omega)
            have HPS := Lib.hid hps
            have HG0 := Lib.hid hI.out.live.g
            have HTL : Hid ((compactC C).1.T.length ≤ C.T.length + 8) := by
              show _ ≤ _
              rw [compactC_same.2]; omega
            have I10 := Lib.hid (hI.out.move m10 l10)
            have hr10' : r10.b = r.b := hr10.trans hrb
            have hnn : n10 ≤ 100001000 + 1000 * i := by omega
            clear hps l10 m10 k0 k1 k2 TX hI hrb hr10
            by_cases h20 : (compactC C).2 = 20
            focus
              rw [h20]
              have B10 := Lib.hid I10.out.bel
              go_wp2_with (go_at_call 9; refine (lives_any _).mono ?_; rintro e w11 ⟨rfl, b11⟩; have B11 := Lib.hid (B10.out.trans (b11.mono B10.out.size)); clear b11)
              go_ret
              exact ⟨rfl, B11.out⟩
            have h20' : ((compactC C).2 == 20) = false := by simpa using h20
            generalize (compactC C).1 = C' at *
            generalize (compactC C).2 = e2 at *
            go_wp2_with fail
            clear h20 h20'
          rotate_left
          focus
            have h0' : (xk == 0) = false := by simpa using h0
            have h1' : (xk == 1) = false := by simpa using h1
            go_wp2_with fail
            obtain ⟨C', I10, HPS, HTL⟩ : ∃ C', Hid (CrInv w wr cb jb mb r2 n2 vr2 C' S u8 u9) ∧ Hid (CGood C' ∧ CStep C C') ∧ Hid (C'.T.length ≤ C.T.length + 8) := ⟨C, hI, ⟨hI.out.live.g, CStep.refl C⟩, by show _ ≤ _; omega⟩
            have hr10' : r2.b = r.b := hrb
            have HG0 := Lib.hid hI.out.live.g
            have hnn : n2 ≤ 100001000 + 1000 * i := by omega
            clear k0 k1 k2 TX hI hrb h0 h1 h0' h1' Or hn2 hn3
            generalize wr = w10 at *
            generalize r2 = r10 at *
            generalize vr2 = vr10 at *
            generalize n2 = n10 at *
          all_goals
            refine (Version_any cb jb mb C'.ver w10 I10.out.live.ci.2.c).mono ?_
            rintro e w10 ⟨rfl, rfl⟩
            go_wp2_with fail
            refine (Tiles_any cb jb mb n10 C'.ver C'.T w10 I10.out.live.ci.2.c I10.out.live.ci.2.m I10.out.live.ci.2.so I10.out.live.ci.2.fi (by omega)).mono ?_
            rintro e w11 ⟨v11, rfl, o11, b11⟩
            obtain ⟨ao11, cp11, rfl⟩ := own_slice o11
            have O11 := Lib.hid (own_base_le I10.out.bel.size o11)
            have I11 := Lib.hid (I10.out.below b11)
            clear o11 b11 I10
            have hSl : S.length ≤ 9 := by have := hH.out.len; omega
            go_wp2_with (
              at_builtin
              refine app1 rfl _ _ 62 40 (.agg #[.slice none 0 0, .int .i64 0, .slice none 0 0]) 3 56 w.heap.size [.slice none 0 0, .int .i64 C'.ver, .slice ao11 C'.T.length cp11] rfl Tryz.underlying62 info_ref rfl (by omega) (by omega) u8 S.length (S.flatMap Ent.cells) (by rfl) (by simp [Act.eval]) rfl (by intro u hu; simp at hu; rcases hu with rfl | rfl | rfl <;> rfl) I11.out.os I11.out.bel.size (by omega) ?_
              intro v12 w12 hown12 hg12 hat12
              have q12 := I11.out.pushS ⟨C'.ver, .slice ao11 C'.T.length cp11, C'.T, C'.J.D.log.length⟩ O11.out hown12 hg12
              have L12 := Lib.hid q12.1
              have B12 := Lib.hid q12.2.1
              have S12 := Lib.hid q12.2.2.1
              have E12 := Lib.hid q12.2.2.2.1
              have T12 := Lib.hid q12.2.2.2.2
              clear hown12 hg12 hat12 q12)
            have hw12 := Writes_any r10 C'.J.D w12 L12.out.ci.1
            rw [hr10'] at hw12
            refine hw12.mono ?_
            rintro e w12 ⟨rfl, rfl⟩
            have HST := Lib.hid (hH.out.step (C := C) (C' := C') HG0.out HPS.out.1 HPS.out.2 HTL.out (.slice ao11 C'.T.length cp11))
            go_wp2_with (
              at_builtin
              refine app1 rfl _ _ 63 3 (.int .i64 0) 1 8 w.heap.size [.int .i64 C'.J.D.log.length] rfl Tryz.underlying63 info_int rfl (by omega) (by omega) u9 S.length (S.map Ent.ev) (by rfl) (by simp [Act.eval]) rfl (by simp [Value.oneCell']) E12.out B12.out.size (by omega) ?_
              intro v13 w13 hown13 hg13 hat13
              have I13 := Lib.hid (crPushE L12.out B12.out S12.out E12.out T12.out _ rfl hown13 hg13)
              clear hown13 hg13 hat13)
            go_roundw
            case rel => exact ⟨i + 1, r10, n10, vr10, C', _, by go_num, by omega, hr10', by omega, I13.out, HST.out⟩
            case measure => simp [intOf]; omega
        · have hic' : ¬ (i : Int) < (L.length : Int) := by omega
          obtain rfl : i = L.length := by omega
          obtain ⟨ae, ce, rfl⟩ := own_slice hI.out.oe
          obtain ⟨as_, cs, rfl⟩ := own_slice hI.out.os
          have hSl := hH.out.len
          obtain ⟨g, rfl, _⟩ := int_cell (i := 0) hI.out.oe (by omega)
          obtain ⟨g3, rfl, _⟩ := ent_cell (i := 0) hI.out.os (by omega)
          have HSL := Lib.hid hSl
          have hS1 : 1 ≤ S.length := by omega
          have hS9 : S.length ≤ 9 := by omega
          clear hic hic' hi hn2 HNE HI8 I8 hSl
          have hlog : C.J.D.log.length ≤ 500 := by
            have h1 := hH.out.lg
            have : L.length * nb ≤ 8 * 40 := Nat.mul_le_mul (by omega) (by omega)
            omega
          go_wp2_with fail
          go_loopw [11] (fun v w2 => ∃ j : Nat, v = .int .i64 j ∧ 1 ≤ j ∧ j ≤ S.length ∧ Hid (Below wr.heap.size wr w2)) (fun v _ => S.length - (intOf v).toNat)
          case atStart => exact ⟨1, rfl, by omega, by omega, Below.refl _ _⟩
          case round =>
            obtain ⟨j, rfl, hj1, hjS, hB2⟩ := hrel
            by_cases hjc : j < S.length
            · have hjc' : (j : Int) < (S.length : Int) := by omega
              obtain ⟨j1, hj⟩ : ∃ j1 : Nat, (j : Int) - 1 = j1 := ⟨j - 1, by omega⟩
              have hjj : j = j1 + 1 := by omega
              have hj1c : j1 < S.length := by omega
              have hjw : wrap64 (j1 : Int) = j1 := by unfold wrap64; omega
              have hj1c' : (j1 : Int) < (S.length : Int) := by omega
              have hist := hH.out.hist j1 (by have := HSL.out; omega)
              rw [← hjj] at hist
              have HIST := Lib.hid hist
              have IR := Lib.hid (hI.out.below hB2.out)
              obtain ⟨g1, hg1, ke1⟩ := int_cell IR.out.oe hj1c
              have hg1' : g = g1 := by injection hg1 with e; injection e with e _
              subst hg1'
              clear hg1
              have hb1 := hist.1
              have hb2 := hist.2.1
              have hal1 := hH.out.all j1 (by have := HSL.out; omega)
              have hal2 := hH.out.all j (by have := HSL.out; omega)
              have m1 := mem_bang hj1c
              have m2 := mem_bang hjc
              clear hist
              obtain ⟨x1, hx1⟩ : ∃ x, S[j1]! = x := ⟨_, rfl⟩
              obtain ⟨x2, hx2⟩ : ∃ x, S[j]! = x := ⟨_, rfl⟩
              rw [hx1, hx2] at HIST
              rw [hx1] at ke1 hal1 m1
              rw [hx1, hx2] at hb1
              rw [hx2] at hal2 m2 hb2
              have HX1 := Lib.hid hx1
              have HX2 := Lib.hid hx2
              have M1 := Lib.hid m1
              have M2 := Lib.hid m2
              have HJJ := Lib.hid hjj
              clear hx1 hx2 m1 m2 hjj
              obtain ⟨V1, v1, T1, E1⟩ := x1
              obtain ⟨V2, v2, T2, E2⟩ := x2
              obtain ⟨a1, c1, hv1⟩ := own_slice (IR.out.ts _ M1.out)
              obtain ⟨a2, c2, hv2⟩ := own_slice (IR.out.ts _ M2.out)
              simp only at hv1 hv2 hb1 hb2 hal1 hal2 ke1 HIST
              subst hv1
              subst hv2
              have HE1 : Hid (S[j1]!.e = E1) := by show _ = _; rw [HX1.out]
              go_wp2_with fail
              go_loopw [12] (fun v w3 => ∃ k : Nat, v = .int .i64 k ∧ E1 ≤ k ∧ k ≤ E2 + 1 ∧ Hid (Below wr.heap.size wr w3)) (fun v _ => E2 + 1 - (intOf v).toNat)
              case atStart => exact ⟨E1, rfl, by omega, by omega, Below.refl _ _⟩
              case round =>
                obtain ⟨k, rfl, hk1, hk2, hB3⟩ := hrel
                have IK := Lib.hid (IR.out.below hB3.out)
                obtain ⟨g2, hg2, ke2⟩ := int_cell IK.out.oe hjc
                have hg2' : g = g2 := by injection hg2 with e; injection e with e _
                subst hg2'
                rw [HX2.out] at ke2
                simp only at ke2
                clear hg2
                by_cases hkc : k ≤ E2
                · have hkc' : (k : Int) ≤ (E2 : Int) := by omega
                  obtain ⟨g6, hg6, p0, p1, p2⟩ := ent_cell IK.out.os hj1c
                  have hg6' : g3 = g6 := by injection hg6 with e; injection e with e _
                  subst hg6'
                  clear hg6
                  rw [HX1.out] at p1 p2
                  simp only at p1 p2
                  have hT1 : TAt wr cb jb mb r2 vr2 (.slice a1 T1.length c1) T1 := ⟨own_blobs (IK.out.ts _ M1.out), fun _ q hq => ⟨(own_base' (IK.out.ts _ M1.out) hq).2, row_off IK.out.live (IK.out.ts _ M1.out) blob_types hq⟩⟩
                  have hT2 : TAt wr cb jb mb r2 vr2 (.slice a2 T2.length c2) T2 := ⟨own_blobs (IK.out.ts _ M2.out), fun _ q hq => ⟨(own_base' (IK.out.ts _ M2.out) hq).2, row_off IK.out.live (IK.out.ts _ M2.out) blob_types hq⟩⟩
                  have hR := RAt.new IK.out.live hT1 (.slice none 0 0) V1
                  have bW := (Below.refl wr.heap.size wr).alloc (Nat.le_refl _) (.cells #[.slice none 0 0, .int .i64 V1, .slice a1 T1.length c1] 40)
                  have IW := Lib.hid (IK.out.below bW)
                  obtain ⟨g4, hg4, ke3⟩ := int_cell IW.out.oe hjc
                  have hg4' : g = g4 := by injection hg4 with e; injection e with e _
                  subst hg4'
                  rw [HX2.out] at ke3
                  simp only at ke3
                  obtain ⟨g5, hg5, q0, q1, q2⟩ := ent_cell IW.out.os hjc
                  have hg5' : g3 = g5 := by injection hg5 with e; injection e with e _
                  subst hg5'
                  rw [HX2.out] at q1 q2
                  simp only at q1 q2
                  have RX1 := Lib.hid hR
                  have RX2 := Lib.hid (RAt.new IK.out.live hT2 (.slice none 0 0) V2)
                  have BX1 := Lib.hid bW
                  have BX2 := Lib.hid ((Below.refl wr.heap.size wr).alloc (Nat.le_refl _) (.cells #[.slice none 0 0, .int .i64 V2, .slice a2 T2.length c2] 40))
                  have hKl : k ≤ C.J.D.log.length := by omega
                  have z0 := hR.fz 0
                  have z1 := hR.fz 1
                  have z2 := hR.fz 2
                  have y0 := hR.c0
                  have y1 := hR.c1
                  have y2 := hR.c2
                  clear hT1 hT2 hR bW hg4 hg5
                  by_cases hke : k = E2
                  focus
                    have SH : Hid (Shows (redo C.J.D.first (C.J.D.log.take k)) V2 T2) := by
                      have := HIST.out.2.2 k hk1 hkc
                      rw [if_pos hke, if_pos hke] at this
                      exact this
                    subst hke
                    go_wp2_with fail
                    have RX := RX2
                    have BX := BX2
                    have HTX := hal2
                    clear p0 p1 p2 q0 q1 q2 y0 y1 y2 z0 z1 z2 ke1 ke2 ke3 RX1 RX2 BX1 BX2 IW
                    generalize wr.alloc (.cells #[.slice none 0 0, .int .i64 V2, .slice a2 T2.length c2] 40) = wx at *
                    generalize (Value.slice a2 T2.length c2) = vx at *
                    generalize V2 = VX at *
                    generalize T2 = TX at *
                  rotate_left
                  focus
                    have SH : Hid (Shows (redo C.J.D.first (C.J.D.log.take k)) V1 T1) := by
                      have := HIST.out.2.2 k hk1 hkc
                      rw [if_neg hke, if_neg hke] at this
                      exact this
                    have hke' : ((k : Int) == (E2 : Int)) = false := by simp; omega
                    go_wp2_with fail
                    have RX := RX1
                    have BX := BX1
                    have HTX := hal1
                    clear p0 p1 p2 q0 q1 q2 y0 y1 y2 z0 z1 z2 ke1 ke2 ke3 RX1 RX2 BX1 BX2 IW hke hke'
                    generalize wr.alloc (.cells #[.slice none 0 0, .int .i64 V1, .slice a1 T1.length c1] 40) = wx at *
                    generalize (Value.slice a1 T1.length c1) = vx at *
                    generalize V1 = VX at *
                    generalize T1 = TX at *
                  all_goals
                    have LX := Lib.hid (IK.out.live.below BX.out)
                    have haf := After_any r2 C.J.D (k : Int) wx LX.out.ci.1 (by omega)
                    rw [hrb] at haf
                    refine haf.mono ?_
                    rintro e w15 ⟨r15, rfl, d15, b15, _⟩
                    have hup : (C.J.D.after (k : Int)).now = redo C.J.D.first (C.J.D.log.take k) := by
                      rw [after_now]
                      have e : C.J.D.upto (k : Int) = k := by unfold Dev.upto; omega
                      rw [e]
                    have hl5 : 5 ≤ (C.J.D.after (k : Int)).now.length := by
                      rw [hup, redo_len, LX.out.ci.1.ok.len, hH.out.nl]
                      exact hnb.1
                    have S15 : Shows (C.J.D.after (k : Int)).now VX TX := by rw [hup]; exact SH.out
                    have R15 := Lib.hid (RX.out.move (CMove.below b15))
                    have B15 := Lib.hid (BX.out.trans (b15.mono BX.out.size))
                    have D15 := Lib.hid d15
                    clear d15 b15 hup RX BX LX haf SH
                    go_wp2_with fail
                    refine (open_shows r15 _ w15 D15.out hl5 S15).mono ?_
                    rintro e w16 ⟨b16, cb', jb', mb', n', rfl, hn', hc', hm', hso', hfi'⟩
                    have R16 := Lib.hid (R15.out.move (CMove.below b16))
                    have B16 := Lib.hid (B15.out.trans (b16.mono B15.out.size))
                    have k0 := R16.out.c0
                    have k1 := R16.out.c1
                    have k2 := R16.out.c2
                    have hsm := Lib.hid (same_any cb' jb' mb' n' VX TX (.slice none 0 0) _ w16 hc' hm' hso' hfi' (by omega) (by omega) R16.out.t.b)
                    clear hc' hm' hso' hfi' b16 R15 B15 D15 S15 hl5
                    go_wp2_with (first
                      | (go_at_call 16; refine hsm.out.mono ?_; rintro e w17 ⟨rfl, b17⟩; have B17 := Lib.hid (B16.out.trans (b17.mono B16.out.size)); clear b17))
                    go_roundw
                    case rel => exact ⟨k + 1, by go_num, by omega, by omega, hB3.out.trans (B17.out.mono hB3.out.size)⟩
                    case measure => simp [intOf] <;> omega
                · have hkc' : ¬ (k : Int) ≤ (E2 : Int) := by omega
                  go_wp2_with fail
                  go_roundw
                  case rel => exact ⟨j + 1, by go_num, by omega, by omega, (hB2.out.trans (hB3.out.mono hB2.out.size))⟩
                  case measure => simp [intOf]; omega
            · have hjc' : ¬ (j : Int) < (S.length : Int) := by omega
              have B2 := Lib.hid (hI.out.bel.trans (hB2.out.mono hI.out.bel.size))
              go_wp2_with (go_at_call 9; refine (lives_any _).mono ?_; rintro e w11 ⟨rfl, b11⟩; have B11 := Lib.hid (B2.out.trans (b11.mono B2.out.size)); clear b11)
              go_ret
              exact ⟨rfl, B11.out⟩
end Go.Proofs.YtjflcpkmoamijaaGreatDoor
