import Derived.Test.YtjflcpkmoamijaaGreatDoorRi
namespace Go.Proofs.YtjflcpkmoamijaaGreatDoor
open Go.RowKit
set_option linter.unusedVariables false
set_option linter.unusedSimpArgs false
set_option linter.unnecessarySimpa false

structure PInv (w wr : World) (bx : Nat) (s : ByteArray) (a : Nat) (er : Int) (v : Value) (l : List Bl) : Prop where
  h : wr.heap[bx]? = some (.cells #[.string s, .int .i64 a, .int .i64 er] 126 (0, 0))
  own : wr.ownsRow w.heap.size 93 4 v l.length (l.flatMap Bl.cells)
  bel : Below w.heap.size w wr
  bx : w.heap.size ≤ bx
theorem PInv.c0 {w wr : World} {bx : Nat} {s : ByteArray} {a : Nat} {er : Int} {v : Value} {l : List Bl} (h : PInv w wr bx s a er v l) : wr.cell? ⟨bx, 0, none⟩ = some (.string s) := cell_of_row wr _ 0 _ _ _ h.h
theorem PInv.c1 {w wr : World} {bx : Nat} {s : ByteArray} {a : Nat} {er : Int} {v : Value} {l : List Bl} (h : PInv w wr bx s a er v l) : wr.cell? ⟨bx, 1, none⟩ = some (.int .i64 a) := cell_of_row wr _ 1 _ _ _ h.h
theorem PInv.c2 {w wr : World} {bx : Nat} {s : ByteArray} {a : Nat} {er : Int} {v : Value} {l : List Bl} (h : PInv w wr bx s a er v l) : wr.cell? ⟨bx, 2, none⟩ = some (.int .i64 er) := cell_of_row wr _ 2 _ _ _ h.h
theorem PInv.fz {w wr : World} {bx : Nat} {s : ByteArray} {a : Nat} {er : Int} {v : Value} {l : List Bl} (h : PInv w wr bx s a er v l) (i : Nat) : wr.frozen? ⟨bx, i, none⟩ = false := frozen_of_row wr _ i _ _ h.h
theorem PInv.below {w wr w' : World} {bx : Nat} {s : ByteArray} {a : Nat} {er : Int} {v : Value} {l : List Bl} (h : PInv w wr bx s a er v l) (b : Below wr.heap.size wr w') : PInv w w' bx s a er v l :=
  ⟨(b.block _ (lt_of_heap h.h)).trans h.h, (Fr.of_below b Nowhere).owns h.own (fun _ _ h => h), h.bel.trans (b.mono h.bel.size), h.bx⟩
theorem PInv.put {w wr : World} {bx : Nat} {s : ByteArray} {a : Nat} {er : Int} {v : Value} {l : List Bl} (h : PInv w wr bx s a er v l) (a' : Nat) (e' : Int) :
    PInv w (((wr.setCell ⟨bx, 0, none⟩ (.string s)).setCell ⟨bx, 1, none⟩ (.int .i64 a')).setCell ⟨bx, 2, none⟩ (.int .i64 e')) bx s a' e' v l := by
  refine ⟨heap3 h.h _ _ _, ?_, set3 h.bel h.bx _ _ _, h.bx⟩
  have f : Fr wr (((wr.setCell ⟨bx, 0, none⟩ (.string s)).setCell ⟨bx, 1, none⟩ (.int .i64 a')).setCell ⟨bx, 2, none⟩ (.int .i64 e')) (fun k => k = bx) :=
    (((Fr.refl wr (fun k => k = bx)).setCell ⟨bx, 0, none⟩ _ (fun _ => rfl)).setCell ⟨bx, 1, none⟩ _ (fun _ => rfl)).setCell ⟨bx, 2, none⟩ _ (fun _ => rfl)
  exact f.owns h.own (fun i hi e => own_ne h.own h.h (by decide) (e ▸ hi) rfl)
theorem PInv.push {w wr w' : World} {bx : Nat} {s : ByteArray} {a : Nat} {er : Int} {v v' : Value} {l : List Bl} (h : PInv w wr bx s a er v l) (x : Bl)
    (ho : w'.ownsRow w.heap.size 93 4 v' (l.length + 1) (l.flatMap Bl.cells ++ x.cells)) (hg : wr.grownBy w' v.ownBlock) : PInv w w' bx s a er v' (l ++ [x]) := by
  have f : Fr wr w' (fun k => v.ownBlock = some k) := Fr.grown hg (fun k hk _ => hk)
  refine ⟨f.heap h.h (fun e => own_ne h.own h.h (by decide) e rfl), ?_, h.bel.grown hg h.bel.size (fun j hj => (own_base' h.own hj).1), h.bx⟩
  have e : (l ++ [x]).flatMap Bl.cells = l.flatMap Bl.cells ++ x.cells := by simp
  rw [e, List.length_append]; exact ho
theorem countM_zero (s : ByteArray) (a : Nat) (er most : Int) (h : (countM s a er most).2.2 ≠ 0) : (countM s a er most).1 = 0 := by
  unfold countM at h ⊢
  split
  · rename_i h1
    rw [if_pos h1] at h
    split
    · rename_i h2
      rw [if_pos h2] at h
      exact absurd rfl h
    · rfl
  · rfl
theorem dec_round {s : ByteArray} {a m : Nat} {l : List Bl} {n1 n2 n3 : Int} {A1 A2 A3 A4 : Nat} {E1 E2 E3 E4 : Int} {t : ByteArray} (h1 : uintM s a 0 = (n1, A1, E1)) (h2 : uintM s A1 E1 = (n2, A2, E2)) (h3 : uintM s A2 E2 = (n3, A3, E3)) (h4 : textM s A3 E3 s.size = (t, A4, E4)) :
    decLoop s (m + 1) a 0 l = if E4 ≠ 0 then ((A4, E4), l ++ [⟨⟨zig n1, zig n2, zig n3⟩, t⟩]) else decLoop s m A4 E4 (l ++ [⟨⟨zig n1, zig n2, zig n3⟩, t⟩]) := by
  rw [decLoop]
  unfold rdText rd3 rdTile
  rw [h1]
  simp only [h2, h3, h4]
theorem rdText_eq (s : ByteArray) (a : Nat) (er : Int) : rdText s a er = textM s (rd3 s a er).1 (rd3 s a er).2 s.size := rfl
set_option maxHeartbeats 4000000 in
set_option maxRecDepth 100000 in
theorem rparse_any (s : ByteArray) (w : World) (hs : s.size ≤ 1000000000) :
    Calls Tryz.prog 49 #[.string s] w (DecPost s w) := by
  have RI : Hid (∀ (a : Nat) (er : Int) (w : World), a ≤ s.size → Calls Tryz.prog 81 #[.agg #[.string s, .int .i64 a, .int .i64 er]] w fun e w' => e = .returned (.tuple #[.agg #[.string s, .int .i64 (uintM s a er).2.1, .int .i64 (uintM s a er).2.2], .int .i64 (zig (uintM s a er).1)]) ∧ Below w.heap.size w w') := fun a er w ha => RInt_any s a er w (by omega) ha
  have RC : Hid (∀ (a : Nat) (er : Int) (w : World), a ≤ s.size → Calls Tryz.prog 83 #[.agg #[.string s, .int .i64 a, .int .i64 er], .int .i64 s.size] w fun e w' => e = .returned (.tuple #[.agg #[.string s, .int .i64 (countM s a er s.size).2.1, .int .i64 (countM s a er s.size).2.2], .int .i64 (countM s a er s.size).1]) ∧ Below w.heap.size w w') := fun a er w ha => RCount_any s a er s.size w (by omega) ha (by omega)
  have RT : Hid (∀ (a : Nat) (er : Int) (w : World), a ≤ s.size → Calls Tryz.prog 85 #[.agg #[.string s, .int .i64 a, .int .i64 er], .int .i64 s.size] w fun e w' => e = .returned (.tuple #[.agg #[.string s, .int .i64 (textM s a er s.size).2.1, .int .i64 (textM s a er s.size).2.2], .string (textM s a er s.size).1]) ∧ Below w.heap.size w w') := fun a er w ha => RText_any s a er s.size w (by omega) ha (by omega)
  have RE : Hid (∀ (a : Nat) (er : Int) (w : World), Calls Tryz.prog 84 #[.agg #[.string s, .int .i64 a, .int .i64 er]] w fun e w' => e = .returned (.int .i64 er) ∧ Below w.heap.size w w') := fun a er w => RErr_any s a er w
  have RD : Hid (∀ (a : Nat) (er : Int) (w : World), a ≤ s.size → Calls Tryz.prog 86 #[.agg #[.string s, .int .i64 a, .int .i64 er]] w fun e w' => e = .returned (.int .i64 (doneM s a er)) ∧ Below w.heap.size w w') := fun a er w ha => RDone_any s a er w (by omega) ha
  have HD : Hid (decP s = (zig (uintM s 0 0).1, (decLoop s (countM s (uintM s 0 0).2.1 (uintM s 0 0).2.2 s.size).1.toNat (countM s (uintM s 0 0).2.1 (uintM s 0 0).2.2 s.size).2.1 (countM s (uintM s 0 0).2.1 (uintM s 0 0).2.2 s.size).2.2 []).2, doneM s (decLoop s (countM s (uintM s 0 0).2.1 (uintM s 0 0).2.2 s.size).1.toNat (countM s (uintM s 0 0).2.1 (uintM s 0 0).2.2 s.size).2.1 (countM s (uintM s 0 0).2.1 (uintM s 0 0).2.2 s.size).2.2 []).1.1 (decLoop s (countM s (uintM s 0 0).2.1 (uintM s 0 0).2.2 s.size).1.toNat (countM s (uintM s 0 0).2.1 (uintM s 0 0).2.2 s.size).2.1 (countM s (uintM s 0 0).2.1 (uintM s 0 0).2.2 s.size).2.2 []).1.2 == 0)) := rfl
  have h1 := uintM_le (err := 0) (Nat.zero_le s.size)
  have HS := Lib.hid hs
  go_enter Tryz.func49, Tryz.ntmps49
  go_wp2_with fail
  refine (RRead_any s w).mono ?_
  rintro e w1 ⟨rfl, b1⟩
  have B1 := Lib.hid b1
  clear b1
  unfold rdv
  go_wp2_with fail
  have hi1 := RI.out 0 0 w1 (Nat.zero_le _)
  refine hi1.mono ?_
  rintro e w2 ⟨rfl, b2⟩
  clear hi1
  have hlen := countM_range (s := s) (a := (uintM s 0 0).2.1) (er := (uintM s 0 0).2.2) (most := s.size) (by omega) (by omega)
  have h2 := countM_le (s := s) (er := (uintM s 0 0).2.2) (most := s.size) h1
  generalize uintM s 0 0 = x1 at *
  obtain ⟨n1, a1, e1⟩ := x1
  simp only at h1 h2 hlen HD
  have b3 := (B1.out.trans (b2.mono B1.out.size)).alloc (Nat.le_trans B1.out.size b2.size) (.cells #[.string s, .int .i64 a1, .int .i64 e1] 126)
  have I3 : Hid (PInv w (w2.alloc (.cells #[.string s, .int .i64 a1, .int .i64 e1] 126)) w2.heap.size s a1 e1 (.slice none 0 0) []) :=
    ⟨heap_alloc_new w2 _, World.ownsRow_nil _ _ _ _, b3, Nat.le_trans B1.out.size b2.size⟩
  have q0 := I3.out.c0
  have q1 := I3.out.c1
  have q2 := I3.out.c2
  clear b2 b3 B1
  go_wp2_with fail
  clear q0 q1 q2
  obtain ⟨bx, hbx⟩ : ∃ bx, w2.heap.size = bx := ⟨_, rfl⟩
  rw [hbx] at I3 ⊢
  generalize w2.alloc (.cells #[.string s, .int .i64 a1, .int .i64 e1] 126) = w3 at *
  clear hbx
  refine (RC.out a1 e1 w3 h1).mono ?_
  rintro e w4 ⟨rfl, b4⟩
  have hz0 := countM_zero s a1 e1 s.size
  generalize countM s a1 e1 s.size = x2 at *
  obtain ⟨nn, a2, e2⟩ := x2
  simp only at h2 hlen HD hz0
  obtain ⟨n, rfl⟩ : ∃ n : Nat, nn = n := ⟨nn.toNat, by have := hlen.1; omega⟩
  rw [Int.toNat_natCast] at HD
  have hn := hlen.2
  have HSTART : Hid (e2 ≠ 0 → n = 0) := by
    intro h
    have := hz0 h
    omega
  clear hz0
  have I4 := Lib.hid (I3.out.below b4)
  have I5 := Lib.hid (I4.out.put a2 e2)
  have q0 := I4.out.c0
  have q1 := I4.out.c1
  have q2 := I4.out.c2
  have z0 := I4.out.fz 0
  have z1 := I4.out.fz 1
  have z2 := I4.out.fz 2
  clear b4 I3 hlen
  go_wp2_with fail
  clear q0 q1 q2 z0 z1 z2 I4
  generalize ((w4.setCell ⟨bx, 0, none⟩ (.string s)).setCell ⟨bx, 1, none⟩ (.int .i64 a2)).setCell ⟨bx, 2, none⟩ (.int .i64 e2) = w5 at *
  go_loopw [8, 9] (fun vv iv wr => ∃ (i a : Nat) (er : Int) (l : List Bl), iv = .int .i64 i ∧ i ≤ n ∧ a ≤ s.size ∧ l.length ≤ i ∧ Hid ((er = 0 ∧ decLoop s n a2 e2 [] = decLoop s (n - i) a er l) ∨ ((er ≠ 0 ∨ n ≤ i) ∧ decLoop s n a2 e2 [] = ((a, er), l))) ∧ Hid (PInv w wr bx s a er vv l)) (fun _ iv _ => n - (intOf iv).toNat)
  case atStart =>
    refine ⟨0, a2, e2, [], rfl, by omega, h2, by simp, ?_, I5.out⟩
    by_cases he : e2 = 0
    · exact .inl ⟨he, rfl⟩
    · have h0 := HSTART.out he
      subst h0
      exact .inr ⟨.inl he, rfl⟩
  case round =>
    obtain ⟨i, a, er, l, rfl, hi, ha, hll, hdl, hI⟩ := hrel
    have q0 := hI.out.c0
    have q1 := hI.out.c1
    have q2 := hI.out.c2
    have HX : Hid (¬ i < n ∨ er ≠ 0 → decLoop s n a2 e2 [] = ((a, er), l)) := by
      intro hx
      rcases hdl.out with ⟨he, hd⟩ | ⟨_, hd⟩
      · rw [hd, show n - i = 0 by omega, he]; rfl
      · exact hd
    by_cases hic : i < n
    · have hic' : (i : Int) < (n : Int) := by omega
      by_cases he : er = 0
      · subst he
        have HDL : Hid (decLoop s n a2 e2 [] = decLoop s (n - i) a 0 l) := by
          rcases hdl.out with ⟨_, hd⟩ | ⟨hx, _⟩
          · exact hd
          · rcases hx with hx | hx
            · exact absurd rfl hx
            · omega
        clear HX hdl
        go_wp2_with (refine (RE.out _ _ _).mono ?_; rintro e w6 ⟨rfl, b6⟩; have I6 := Lib.hid (hI.out.below b6); have y0 := I6.out.c0; have y1 := I6.out.c1; have y2 := I6.out.c2; clear b6)
        have hA1 := uintM_le (s := s) (err := 0) ha
        refine (RI.out a 0 w6 ha).mono ?_
        rintro e v1 ⟨rfl, b⟩
        obtain ⟨x, hx⟩ : ∃ x, uintM s a 0 = x := ⟨_, rfl⟩
        rw [hx] at hA1 ⊢
        obtain ⟨N1, P1, Q1⟩ := x
        simp only at hA1 ⊢
        have HX1 := Lib.hid hx
        have J1 := Lib.hid (I6.out.below b)
        have K1 := Lib.hid (J1.out.put P1 Q1)
        have q0 := J1.out.c0
        have q1 := J1.out.c1
        have q2 := J1.out.c2
        have z0 := J1.out.fz 0
        have z1 := J1.out.fz 1
        have z2 := J1.out.fz 2
        have y0 := K1.out.c0
        have y1 := K1.out.c1
        have y2 := K1.out.c2
        clear b hx I6
        go_wp2_with fail
        clear q0 q1 q2 z0 z1 z2 y0 y1 y2 J1
        generalize ((v1.setCell ⟨bx, 0, none⟩ (.string s)).setCell ⟨bx, 1, none⟩ (.int .i64 P1)).setCell ⟨bx, 2, none⟩ (.int .i64 Q1) = u1 at *
        have hA2 := uintM_le (s := s) (err := Q1) hA1
        refine (RI.out P1 Q1 u1 hA1).mono ?_
        rintro e v2 ⟨rfl, b⟩
        obtain ⟨x, hx⟩ : ∃ x, uintM s P1 Q1 = x := ⟨_, rfl⟩
        rw [hx] at hA2 ⊢
        obtain ⟨N2, P2, Q2⟩ := x
        simp only at hA2 ⊢
        have HX2 := Lib.hid hx
        have J2 := Lib.hid (K1.out.below b)
        have K2 := Lib.hid (J2.out.put P2 Q2)
        have q0 := J2.out.c0
        have q1 := J2.out.c1
        have q2 := J2.out.c2
        have z0 := J2.out.fz 0
        have z1 := J2.out.fz 1
        have z2 := J2.out.fz 2
        have y0 := K2.out.c0
        have y1 := K2.out.c1
        have y2 := K2.out.c2
        clear b hx K1
        go_wp2_with fail
        clear q0 q1 q2 z0 z1 z2 y0 y1 y2 J2
        generalize ((v2.setCell ⟨bx, 0, none⟩ (.string s)).setCell ⟨bx, 1, none⟩ (.int .i64 P2)).setCell ⟨bx, 2, none⟩ (.int .i64 Q2) = u2 at *
        have hA3 := uintM_le (s := s) (err := Q2) hA2
        refine (RI.out P2 Q2 u2 hA2).mono ?_
        rintro e v3 ⟨rfl, b⟩
        obtain ⟨x, hx⟩ : ∃ x, uintM s P2 Q2 = x := ⟨_, rfl⟩
        rw [hx] at hA3 ⊢
        obtain ⟨N3, P3, Q3⟩ := x
        simp only at hA3 ⊢
        have HX3 := Lib.hid hx
        have J3 := Lib.hid (K2.out.below b)
        have K3 := Lib.hid (J3.out.put P3 Q3)
        have q0 := J3.out.c0
        have q1 := J3.out.c1
        have q2 := J3.out.c2
        have z0 := J3.out.fz 0
        have z1 := J3.out.fz 1
        have z2 := J3.out.fz 2
        have y0 := K3.out.c0
        have y1 := K3.out.c1
        have y2 := K3.out.c2
        clear b hx K2
        go_wp2_with fail
        clear q0 q1 q2 z0 z1 z2 y0 y1 y2 J3
        generalize ((v3.setCell ⟨bx, 0, none⟩ (.string s)).setCell ⟨bx, 1, none⟩ (.int .i64 P3)).setCell ⟨bx, 2, none⟩ (.int .i64 Q3) = u3 at *
        have hA4 := textM_le (s := s) (er := Q3) (most := s.size) hA3 (by have := HS.out; omega)
        refine (RT.out P3 Q3 u3 hA3).mono ?_
        rintro e v4 ⟨rfl, b⟩
        obtain ⟨x, hx⟩ : ∃ x, textM s P3 Q3 s.size = x := ⟨_, rfl⟩
        rw [hx] at hA4 ⊢
        obtain ⟨tt, P4, Q4⟩ := x
        simp only at hA4 ⊢
        have J4 := Lib.hid (K3.out.below b)
        have K4 := Lib.hid (J4.out.put P4 Q4)
        have q0 := J4.out.c0
        have q1 := J4.out.c1
        have q2 := J4.out.c2
        have z0 := J4.out.fz 0
        have z1 := J4.out.fz 1
        have z2 := J4.out.fz 2
        have hstep := dec_round (m := n - (i + 1)) (l := l) HX1.out HX2.out HX3.out hx
        rw [show n - (i + 1) + 1 = n - i by omega, ← HDL.out] at hstep
        have HST := Lib.hid hstep
        clear b hx K3 hstep HDL HX1 HX2 HX3
        go_wp2_with (
          at_builtin
          refine app1 rfl _ _ 35 93 (.agg #[.int .i64 0, .int .i64 0, .int .i64 0, .string ⟨#[]⟩]) 4 40 w.heap.size [.int .i64 (zig N1), .int .i64 (zig N2), .int .i64 (zig N3), .string tt] rfl Tryz.underlying35 info_blob rfl (by omega) (by omega) u8 l.length (l.flatMap Bl.cells) (by rfl) (by simp [Act.eval]) rfl (by intro u hu; simp at hu; rcases hu with rfl | rfl | rfl | rfl <;> rfl) K4.out.own K4.out.bel.size (by have := HS.out; omega) ?_
          intro v5 w5x hown5 hg5 hat5
          have K5 := Lib.hid (K4.out.push ⟨⟨zig N1, zig N2, zig N3⟩, tt⟩ hown5 hg5)
          clear hown5 hg5 hat5)
        go_roundw
        case rel =>
          refine ⟨i + 1, P4, Q4, _, by go_num, by omega, hA4, by simp; omega, ?_, K5.out⟩
          by_cases he4 : Q4 = 0
          · subst he4
            exact .inl ⟨rfl, by rw [HST.out, if_neg (by simp)]⟩
          · exact .inr ⟨.inl he4, by rw [HST.out, if_pos he4]⟩
        case measure => simp [intOf]; omega
      · have hb : (er == 0) = false := by simpa using he
        have HFIN := Lib.hid (HX.out (.inr he))
        clear HX hdl he
        have hfin : decP s = (zig n1, l, doneM s a er == 0) := by rw [HD.out, HFIN.out]
        have HF := Lib.hid hfin
        clear hfin
        go_wp2_with (refine (RE.out _ _ _).mono ?_; rintro e w6 ⟨rfl, b6⟩; have I6 := Lib.hid (hI.out.below b6); have y0 := I6.out.c0; have y1 := I6.out.c1; have y2 := I6.out.c2; clear b6)
        refine (RD.out a er w6 ha).mono ?_
        rintro e w7 ⟨rfl, b7⟩
        have I7 := Lib.hid (I6.out.below b7)
        clear b7
        go_wp2_with fail
        go_ret3
        exact ⟨_, by rw [HF.out]; rfl, by rw [HF.out]; exact I7.out.own, I7.out.bel⟩
    · have hic' : ¬ (i : Int) < (n : Int) := by omega
      have HFIN := Lib.hid (HX.out (.inl hic))
      clear HX hdl
      go_wp2_with fail
      have hfin : decP s = (zig n1, l, doneM s a er == 0) := by rw [HD.out, HFIN.out]
      have HF := Lib.hid hfin
      clear hfin
      refine (RD.out a er wr ha).mono ?_
      rintro e w7 ⟨rfl, b7⟩
      have I7 := Lib.hid (hI.out.below b7)
      clear b7
      go_wp2_with fail
      go_ret3
      exact ⟨_, by rw [HF.out]; rfl, by rw [HF.out]; exact I7.out.own, I7.out.bel⟩
end Go.Proofs.YtjflcpkmoamijaaGreatDoor
