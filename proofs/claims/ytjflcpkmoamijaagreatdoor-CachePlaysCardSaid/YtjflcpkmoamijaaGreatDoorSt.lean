import Derived.Test.YtjflcpkmoamijaaGreatDoorGg
namespace Go.Proofs.YtjflcpkmoamijaaGreatDoor
open Go.RowKit
set_option linter.unusedVariables false
set_option linter.unusedSimpArgs false
set_option linter.unnecessarySimpa false

theorem ops_two (w : World) (x y : Opv) (hx : OpIn w x) (hy : OpIn w y) : OpsAt (w.alloc (.cells #[.int .u8 x.k, .int .i64 x.ver, x.v, .int .u8 y.k, .int .i64 y.ver, y.v] 50)) (.slice (some ⟨w.heap.size, 0, none⟩) 2 2) [x, y] := by
  refine ⟨⟨_, 2, rfl, fun _ => ⟨_, _, rfl, by simp⟩⟩, ?_, ?_⟩
  · intro b o n c hv j u hj
    simp only [Value.slice.injEq, Option.some.injEq, Addr.mk.injEq] at hv
    obtain ⟨⟨rfl, rfl, _⟩, _, _⟩ := hv
    rw [Nat.zero_add, World.cell?_alloc_new]
    rw [← hj]
    simp [Opv.cells]
  · intro z hz
    have hb : Fr w (w.alloc (.cells #[.int .u8 x.k, .int .i64 x.ver, x.v, .int .u8 y.k, .int .i64 y.ver, y.v] 50)) Nowhere := (Fr.refl _ _).alloc _
    rcases List.mem_cons.1 hz with rfl | hz
    · exact hx.fr hb (fun _ _ h => h)
    · rw [List.mem_singleton.1 hz]; exact hy.fr hb (fun _ _ h => h)
theorem RAt.new {w : World} {B : Nat} {r : DRef} {cb jb mb n : Nat} {vr : Value} {C : Cn} (l : Live w B r cb jb mb n vr C) {v : Value} {T : List Bl} (t : TAt w cb jb mb r vr v T) (bv : Value) (V : Int) : RAt (w.alloc (.cells #[bv, .int .i64 V, v] 40)) cb jb mb r vr w.heap.size bv V v T := by
  have b := (Below.refl w.heap.size w).alloc (Nat.le_refl _) (.cells #[bv, .int .i64 V, v] 40)
  exact ⟨heap_alloc_new w _, (l.off (w' := w.alloc (.cells #[bv, .int .i64 V, v] 40)) (Nat.le_refl _) (by simp)).2, t.move (CMove.below b)⟩
theorem RAt.set {w : World} {cb jb mb : Nat} {r : DRef} {vr : Value} {b : Nat} {bv : Value} {V : Int} {v : Value} {T : List Bl} (h : RAt w cb jb mb r vr b bv V v T) {v2 : Value} {T2 : List Bl} (t : TAt w cb jb mb r vr v2 T2) (hne : T2 ≠ [] → v2.ownBlock ≠ some b) (V2 : Int) :
    RAt (((w.setCell ⟨b, 0, none⟩ bv).setCell ⟨b, 1, none⟩ (.int .i64 V2)).setCell ⟨b, 2, none⟩ v2) cb jb mb r vr b bv V2 v2 T2 ∧ Fr w (((w.setCell ⟨b, 0, none⟩ bv).setCell ⟨b, 1, none⟩ (.int .i64 V2)).setCell ⟨b, 2, none⟩ v2) (fun k => k = b) := by
  have f : Fr w (((w.setCell ⟨b, 0, none⟩ bv).setCell ⟨b, 1, none⟩ (.int .i64 V2)).setCell ⟨b, 2, none⟩ v2) (fun k => k = b) :=
    (((Fr.refl w (fun k => k = b)).setCell ⟨b, 0, none⟩ _ (fun _ => rfl)).setCell ⟨b, 1, none⟩ _ (fun _ => rfl)).setCell ⟨b, 2, none⟩ _ (fun _ => rfl)
  have h0 := heap_setCell_same w b 0 _ _ bv h.h
  have h1 := heap_setCell_same _ b 1 _ _ (.int .i64 V2) h0
  have h2 := heap_setCell_same _ b 2 _ _ v2 h1
  refine ⟨⟨?_, h.o, ⟨t.b.fr0 f (fun hT k hk e => hne hT (by rw [hk, e])), fun hT k hk => ⟨Nat.lt_of_lt_of_le (t.o hT k hk).1 f.size, (t.o hT k hk).2⟩⟩⟩, f⟩
  rw [h2]
  rfl
theorem Live.poke {w w' : World} {B : Nat} {r : DRef} {cb jb mb n : Nat} {vr : Value} {C : Cn} {S : Nat → Prop} (h : Live w B r cb jb mb n vr C) (k : Fr w w' S) (hn : ∀ i, cfoot r cb jb mb vr i → ¬ S i) : Live w' B r cb jb mb n vr C :=
  ⟨⟨h.ci.1.fr k (fun i hi => hn i (.inl hi)), h.ci.2.fr k (hn _ (.inr (.inl rfl))) (hn _ (.inr (.inr (.inl rfl)))) (fun i hi => hn i (.inr (.inr (.inr hi))))⟩, h.lo, Nat.le_trans h.hB k.size, h.g⟩
theorem after_all {C : Cn} (h : CGood C) : (C.J.D.after (C.J.D.log.length : Int)).now = C.J.D.now := by
  rw [after_now]
  have e : C.J.D.upto (C.J.D.log.length : Int) = C.J.D.log.length := by unfold Dev.upto; omega
  rw [e, List.take_length, ← h.lv]
/-- An operation in a variable of its own. -/
def BoxAt (w : World) (b : Nat) (x : Opv) : Prop := w.heap[b]? = some (.cells #[.int .u8 x.k, .int .i64 x.ver, x.v] 50 (0, 0))
theorem BoxAt.c0 {w : World} {b : Nat} {x : Opv} (h : BoxAt w b x) : w.cell? ⟨b, 0, none⟩ = some (.int .u8 x.k) := cell_of_row w _ 0 _ _ _ h
theorem BoxAt.c1 {w : World} {b : Nat} {x : Opv} (h : BoxAt w b x) : w.cell? ⟨b, 1, none⟩ = some (.int .i64 x.ver) := cell_of_row w _ 1 _ _ _ h
theorem BoxAt.c2 {w : World} {b : Nat} {x : Opv} (h : BoxAt w b x) : w.cell? ⟨b, 2, none⟩ = some x.v := cell_of_row w _ 2 _ _ _ h
theorem BoxAt.fr {w w' : World} {b : Nat} {x : Opv} {S : Nat → Prop} (h : BoxAt w b x) (k : Fr w w' S) (hn : ¬ S b) : BoxAt w' b x := k.heap h hn
set_option maxHeartbeats 4000000 in
set_option maxRecDepth 100000 in
theorem stops_any (blocks lim : Int) (x y : Opv) (w : World) (hx : OpIn w x) (hy : OpIn w y) (hlim : InInt lim) :
    Calls Tryz.prog 8 #[.int .i64 blocks, x.val, y.val, .int .i64 lim] w fun e w' => e = .returned (.bool true) ∧ Below w.heap.size w w' := by
  have X := Lib.hid hx
  have Y := Lib.hid hy
  have HLI := Lib.hid hlim
  clear hx hy hlim
  simp only [Opv.val]
  have hOps : ∀ w1 : World, Below w.heap.size w w1 → OpsAt (w1.alloc (.cells #[.int .u8 x.k, .int .i64 x.ver, x.v, .int .u8 y.k, .int .i64 y.ver, y.v] 50)) (.slice (some ⟨w1.heap.size, 0, none⟩) 2 2) [x, y] :=
    fun w1 h => ops_two w1 x y (X.out.fr (Fr.of_below h Nowhere) (fun _ _ h => h)) (Y.out.fr (Fr.of_below h Nowhere) (fun _ _ h => h))
  have bw1 := (Below.refl w.heap.size w).alloc (Nat.le_refl _) (.cells #[.int .u8 x.k, .int .i64 x.ver, x.v] 50)
  have bw2 := bw1.alloc (by simp) (.cells #[.int .u8 y.k, .int .i64 y.ver, y.v] 50)
  have bw3 := bw2.alloc (by simp; omega) (.cells #[.int .u8 x.k, .int .i64 x.ver, x.v, .int .u8 y.k, .int .i64 y.ver, y.v] 50)
  have o3 := hOps _ bw2
  have hx1 : BoxAt (w.alloc (.cells #[.int .u8 x.k, .int .i64 x.ver, x.v] 50)) w.heap.size x := heap_alloc_new w _
  have hy1 : BoxAt ((w.alloc (.cells #[.int .u8 x.k, .int .i64 x.ver, x.v] 50)).alloc (.cells #[.int .u8 y.k, .int .i64 y.ver, y.v] 50)) (w.heap.size + 1) y := by
    have := heap_alloc_new (w.alloc (.cells #[.int .u8 x.k, .int .i64 x.ver, x.v] 50)) (.cells #[.int .u8 y.k, .int .i64 y.ver, y.v] 50)
    simp only [World.size_alloc] at this
    exact this
  have hx3 := (hx1.fr ((Fr.refl _ Nowhere).alloc (.cells #[.int .u8 y.k, .int .i64 y.ver, y.v] 50)) (fun h => h)).fr ((Fr.refl _ Nowhere).alloc (.cells #[.int .u8 x.k, .int .i64 x.ver, x.v, .int .u8 y.k, .int .i64 y.ver, y.v] 50)) (fun h => h)
  have hy3 := hy1.fr ((Fr.refl _ Nowhere).alloc (.cells #[.int .u8 x.k, .int .i64 x.ver, x.v, .int .u8 y.k, .int .i64 y.ver, y.v] 50)) (fun h => h)
  simp only [World.size_alloc] at o3
  have O3 := Lib.hid o3
  have BX := Lib.hid hx3
  have BY := Lib.hid hy3
  have B3 := Lib.hid bw3
  clear bw1 bw2 bw3 o3 hx1 hy1 hx3 hy3 hOps
  go_enter Tryz.func8, Tryz.ntmps8
  go_wp2_with fail
  generalize ((w.alloc (.cells #[.int .u8 x.k, .int .i64 x.ver, x.v] 50)).alloc (.cells #[.int .u8 y.k, .int .i64 y.ver, y.v] 50)).alloc (.cells #[.int .u8 x.k, .int .i64 x.ver, x.v, .int .u8 y.k, .int .i64 y.ver, y.v] 50) = w3 at *
  refine (few_any blocks _ [x, y] w3 O3.out).mono ?_
  rintro e w4 ⟨β, rfl, rfl, hfew⟩
  have HFEW := Lib.hid hfew
  clear hfew O3
  cases β with
  | false =>
    go_wp2_with (go_at_call 9; refine (lives_any _).mono ?_; rintro e w5 ⟨rfl, b5⟩; have B5 := Lib.hid (B3.out.trans (b5.mono B3.out.size)); clear b5)
    go_ret
    exact ⟨rfl, B5.out⟩
  | true =>
    have hF := HFEW.out rfl
    obtain ⟨hb40, _, hl⟩ := hF
    have hxl := hl x List.mem_cons_self
    have hyl := hl y (List.mem_cons_of_mem _ (List.mem_singleton.2 rfl))
    have HXL := Lib.hid hxl
    have HYL := Lib.hid hyl
    clear hl hxl hyl HFEW
    by_cases h5 : blocks < 5
    · go_wp2_with (go_at_call 9; refine (lives_any _).mono ?_; rintro e w5 ⟨rfl, b5⟩; have B5 := Lib.hid (B3.out.trans (b5.mono B3.out.size)); clear b5)
      go_ret
      exact ⟨rfl, B5.out⟩
    · have h5' : 5 ≤ blocks := by omega
      obtain ⟨nb, rfl⟩ : ∃ nb : Nat, blocks = nb := ⟨blocks.toNat, by omega⟩
      have hnb : 5 ≤ nb ∧ nb ≤ 40 := by omega
      have hB3 := B3.out.size
      go_wp2_with fail
      refine (start_any nb w4 hnb.1 (by omega) (format_parse nb hnb.1 (by omega))).mono ?_
      rintro e w5 ⟨r, cb, jb, mb, n, vr, rfl, c5, hn5, b5, f5⟩
      have L5 : Hid (Live w5 w4.heap.size r cb jb mb n vr ⟨⟨(Dev.fresh nb).format, 0, 0, []⟩, -1, []⟩) := ⟨c5, f5, b5.size, start_good nb hnb.1 (by omega)⟩
      have B5 := Lib.hid (B3.out.trans (b5.mono hB3))
      have X5 := Lib.hid (X.out.fr (Fr.of_below B5.out Nowhere) (fun _ _ h => h))
      have Y5 := Lib.hid (Y.out.fr (Fr.of_below B5.out Nowhere) (fun _ _ h => h))
      have BX5 := Lib.hid (BX.out.fr (Fr.of_below b5 Nowhere) (fun h => h))
      have BY5 := Lib.hid (BY.out.fr (Fr.of_below b5 Nowhere) (fun h => h))
      have hlim5 : Hid ((⟨⟨(Dev.fresh nb).format, 0, 0, []⟩, -1, []⟩ : Cn).J.D.lim = false ∧ (⟨⟨(Dev.fresh nb).format, 0, 0, []⟩, -1, []⟩ : Cn).J.D.log.length = 2 ∧ (⟨⟨(Dev.fresh nb).format, 0, 0, []⟩, -1, []⟩ : Cn).J.D.now.length = nb ∧ (⟨⟨(Dev.fresh nb).format, 0, 0, []⟩, -1, []⟩ : Cn).T.length = 0) :=
        ⟨rfl, rfl, by simp [Dev.format, Dev.write, Dev.fresh], rfl⟩
      have hx4 : w.heap.size + 1 < w4.heap.size := lt_of_heap BY.out
      have TX5 : Hid (TAt w5 cb jb mb r vr x.v x.l) := ⟨X5.out.b, fun h0 k hk => L5.out.old (by have := X.out.lt h0 k hk; omega)⟩
      have TY5 : Hid (TAt w5 cb jb mb r vr y.v y.l) := ⟨Y5.out.b, fun h0 k hk => L5.out.old (by have := Y.out.lt h0 k hk; omega)⟩
      have HXI := X.out.i
      have HYI := Lib.hid Y.out.i
      have ob5 : Hid (¬ cfoot r cb jb mb vr (w.heap.size + 1)) := (L5.out.old hx4).2
      clear c5 b5 f5 BX BY X Y B3 X5 Y5
      generalize (⟨⟨(Dev.fresh nb).format, 0, 0, []⟩, -1, []⟩ : Cn) = C0 at *
      have k1 := BX5.out.c1
      have k2 := BX5.out.c2
      go_wp2_with fail
      refine (L5.out.put x.ver x.v x.l TX5.out HXI (by have := HXL.out.1; omega) (fun b hb => by have := HXL.out.2 b hb; omega) (by omega) (by rw [hlim5.out.2.1]; omega)).mono ?_
      rintro e w6 ⟨rfl, r6, vr6, n6, hn6, l6, hr6, m6⟩
      have L6 := Lib.hid l6
      have T6 := Lib.hid (TY5.out.move m6)
      have BY6 := Lib.hid (BY5.out.fr m6.fr ob5.out)
      have ob6 : Hid (¬ cfoot r6 cb jb mb vr6 (w.heap.size + 1)) := (Off.move ⟨lt_of_heap BY5.out, ob5.out⟩ m6).2
      have B6 := Lib.hid (m6.base L5.out B5.out (by omega))
      have st6 := (put_step L5.out.g x.ver x.l (by have := HXL.out.1; omega) (fun b hb => by have := HXL.out.2 b hb; omega)).2
      have hT6 := putC_T (C := C0) (ver := x.ver) (l := x.l)
      have hlog6 : (putC C0 x.ver x.l).1.J.D.log.length ≤ 100 ∧ (putC C0 x.ver x.l).1.J.D.now.length = nb ∧ (putC C0 x.ver x.l).1.T.length ≤ 8 := by
        have h1 := st6.log
        have h2 := st6.len
        have h3 := hlim5.out.2
        have h4 := HXL.out.1
        omega
      have HG6 := Lib.hid hlog6
      clear l6 m6 st6 hT6 hlog6 L5 TX5 TY5 BX5 BY5 B5 k1 k2 hlim5 ob5
      generalize putC C0 x.ver x.l = PX at *
      obtain ⟨C1, e1⟩ := PX
      simp only at L6 HG6
      by_cases he1 : e1 = 0
      · subst he1
        have hn6' : n6 ≤ 100001000 := by omega
        go_wp2_with (go_at_call 27; refine (Version_any cb jb mb C1.ver w6 L6.out.ci.2.c).mono ?_; rintro e w6 ⟨rfl, rfl⟩)
        refine (Tiles_any cb jb mb n6 C1.ver C1.T w6 L6.out.ci.2.c L6.out.ci.2.m L6.out.ci.2.so L6.out.ci.2.fi (by omega)).mono ?_
        rintro e w7 ⟨v7, rfl, o7, b7⟩
        obtain ⟨ao7, cp7, rfl⟩ := own_slice o7
        have V7 := Lib.hid (L6.out.tiles o7)
        have L7 := Lib.hid (L6.out.below b7)
        have T7 := Lib.hid (T6.out.move (CMove.below b7))
        have BY7 := Lib.hid (BY6.out.fr (Fr.of_below b7 Nowhere) (fun h => h))
        have B7 := Lib.hid (B6.out.trans (b7.mono B6.out.size))
        clear o7 b7 L6 T6 BY6 B6
        go_wp2_with fail
        have r8 := RAt.new L7.out V7.out (.slice none 0 0) C1.ver
        have b8 := (Below.refl w7.heap.size w7).alloc (Nat.le_refl _) (.cells #[.slice none 0 0, .int .i64 C1.ver, .slice ao7 C1.T.length cp7] 40)
        have R8 := Lib.hid r8
        have L8 := Lib.hid (L7.out.below b8)
        have T8 := Lib.hid (T7.out.move (CMove.below b8))
        have BY8 := Lib.hid (BY7.out.fr (Fr.of_below b8 Nowhere) (fun h => h))
        have B8 := Lib.hid (B7.out.trans (b8.mono B7.out.size))
        clear r8 b8 L7 T7 BY7 B7 V7
        obtain ⟨tb, htb⟩ : ∃ tb, w7.heap.size = tb := ⟨_, rfl⟩
        rw [htb] at R8 ⊢
        generalize w7.alloc (.cells #[.slice none 0 0, .int .i64 C1.ver, .slice ao7 C1.T.length cp7] 40) = w8 at *
        clear htb
        rw [← hr6]
        refine (L8.out.limit lim HLI.out).mono ?_
        rintro e w9 ⟨rfl, l9, m9⟩
        have R9 := Lib.hid (R8.out.move m9)
        have L9 := Lib.hid l9
        have T9 := Lib.hid (T8.out.move m9)
        have BY9 := Lib.hid (BY8.out.fr m9.fr ob6.out)
        have B9 := Lib.hid (m9.base L8.out B8.out (by omega))
        have HC9 : Hid (∀ C, C = ({ C1 with J := { C1.J with D := C1.J.D.limit lim } } : Cn) → C.ver = C1.ver ∧ C.T = C1.T ∧ C.J.D.log.length ≤ 100 ∧ C.J.D.now.length = nb) := by
          rintro C rfl
          exact ⟨rfl, rfl, HG6.out.1, HG6.out.2.1⟩
        clear l9 m9 R8 L8 T8 BY8 B8
        obtain ⟨CL, hCL⟩ : ∃ CL, CL = ({ C1 with J := { C1.J with D := C1.J.D.limit lim } } : Cn) := ⟨_, rfl⟩
        rw [← hCL] at L9
        have HC := Lib.hid (HC9.out CL hCL)
        clear HC9 hCL
        have k0 := BY9.out.c0
        have k1 := BY9.out.c1
        have k2 := BY9.out.c2
        by_cases hk : y.k = 0
        focus
          go_wp2_with fail
          refine (L9.out.put y.ver y.v y.l T9.out HYI.out (by have := HYL.out.1; omega) (fun b hb => by have := HYL.out.2 b hb; omega) (by omega) (by have := HC.out.2.2.1; omega)).mono ?_
          rintro e w10 ⟨rfl, r10, vr10, n10, hn10, l10, hr10, m10⟩
          have st10 := (put_step L9.out.g y.ver y.l (by have := HYL.out.1; omega) (fun b hb => by have := HYL.out.2 b hb; omega)).2
          have HT10 : Hid ((putC CL y.ver y.l).1.T.length ≤ 1000) := by
            show _ ≤ _
            have h1 := putC_T (C := CL) (ver := y.ver) (l := y.l)
            have h2 := HYL.out.1
            have h3 := HG6.out.2.2
            rw [HC.out.2.1] at h1
            omega
          have HE10 : Hid ((putC CL y.ver y.l).2 ≠ 0 → (putC CL y.ver y.l).1.ver = C1.ver ∧ (putC CL y.ver y.l).1.T = C1.T) := by
            intro h
            have := putC_same h
            rw [HC.out.1, HC.out.2.1] at this
            exact this
          clear k0 k1 k2 hk
          generalize putC CL y.ver y.l = P2 at *
        rotate_left
        focus
          have hk' : (y.k == 0) = false := by simpa using hk
          go_wp2_with fail
          refine (L9.out.compact (by rw [HC.out.2.1]; have := HG6.out.2.2; omega) (by omega) (by have := HC.out.2.2.1; omega)).mono ?_
          rintro e w10 ⟨rfl, r10, vr10, n10, hn10, l10, hr10, m10⟩
          have st10 := (compact_step L9.out.g (by rw [HC.out.2.1]; have := HG6.out.2.2; omega)).2
          have HT10 : Hid ((compactC CL).1.T.length ≤ 1000) := by
            show _ ≤ _
            have h3 := HG6.out.2.2
            rw [compactC_same.2, HC.out.2.1]
            omega
          have HE10 : Hid ((compactC CL).2 ≠ 0 → (compactC CL).1.ver = C1.ver ∧ (compactC CL).1.T = C1.T) := by
            intro h
            have := compactC_same (C := CL)
            rw [HC.out.1, HC.out.2.1] at this
            exact this
          clear k0 k1 k2 hk hk'
          generalize compactC CL = P2 at *
        all_goals
          obtain ⟨C2, e2⟩ := P2
          simp only at l10 st10 HT10 HE10
          have hl1 := st10.log
          have hl2 := st10.len
          have hlog : C2.J.D.log.length ≤ 1000 ∧ C2.J.D.now.length = nb := by have := HC.out.2.2; omega
          have HLOG := Lib.hid hlog
          have R10 := Lib.hid (R9.out.move m10)
          have L10 := Lib.hid l10
          have B10 := Lib.hid (m10.base L9.out B9.out (by omega))
          have hrb : r10.b = r6.b := hr10
          have hn10' : n10 ≤ 200000000 := by omega
          clear l10 m10 R9 L9 T9 BY9 B9 st10 hl1 hl2 hlog HC ob6
          have k1 := R10.out.c1
          have k2 := R10.out.c2
          by_cases he2 : e2 = 0
          · subst he2
            have r11 := RAt.new L10.out R10.out.t (.slice none 0 0) C1.ver
            have b11 := (Below.refl w10.heap.size w10).alloc (Nat.le_refl _) (.cells #[.slice none 0 0, .int .i64 C1.ver, .slice ao7 C1.T.length cp7] 40)
            have R11 := Lib.hid r11
            have L11 := Lib.hid (L10.out.below b11)
            have hB10 := L10.out.hB
            have B11 := Lib.hid (B10.out.trans (b11.mono B10.out.size))
            clear r11 b11 R10 L10 B10
            go_wp2_with (go_at_call 27; refine (Version_any cb jb mb C2.ver _ L11.out.ci.2.c).mono ?_; rintro e w11 ⟨rfl, rfl⟩)
            obtain ⟨sb, hsb⟩ : ∃ sb, w10.heap.size = sb := ⟨_, rfl⟩
            rw [hsb] at R11 ⊢
            clear k1 k2
            generalize w10.alloc (.cells #[.slice none 0 0, .int .i64 C1.ver, .slice ao7 C1.T.length cp7] 40) = w11 at *
            have hsb0 : Hid (w4.heap.size ≤ sb) := by show _ ≤ _; omega
            clear hsb
            refine (Tiles_any cb jb mb n10 C2.ver C2.T w11 L11.out.ci.2.c L11.out.ci.2.m L11.out.ci.2.so L11.out.ci.2.fi (by omega)).mono ?_
            rintro e w12 ⟨v12, rfl, o12, b12⟩
            obtain ⟨ao12, cp12, rfl⟩ := own_slice o12
            have V12 := Lib.hid (L11.out.tiles o12)
            have L12 := Lib.hid (L11.out.below b12)
            have R12 := Lib.hid (R11.out.move (CMove.below b12))
            have B12 := Lib.hid (B11.out.trans (b12.mono B11.out.size))
            have h12 := R12.out.h
            have k0 := R12.out.c0
            have k1 := R12.out.c1
            have k2 := R12.out.c2
            have z0 := R12.out.fz 0
            have z1 := R12.out.fz 1
            have z2 := R12.out.fz 2
            have hs12 : Hid (C2.T ≠ [] → (Value.slice ao12 C2.T.length cp12).ownBlock ≠ some sb) := by
              intro h0 e
              have h1 := (own_base' o12 e).1
              have h2 := lt_of_heap R11.out.h
              omega
            have hsw : Hid (w.heap.size ≤ sb) := by
              have h1 := hB3
              have h2 := hsb0.out
              show _ ≤ _; omega
            clear o12 b12 L11 R11 B11
            go_wp2_with fail
            have q13 := R12.out.set V12.out hs12.out C2.ver
            have R13 := Lib.hid q13.1
            have L13 := Lib.hid (L12.out.poke q13.2 (fun i hi e => R12.out.o (e ▸ hi)))
            have B13 := Lib.hid (B12.out.trans (q13.2.below B12.out.size (by rintro k rfl; exact hsw.out)))
            clear q13 R12 L12 B12 V12 h12 k0 k1 k2 z0 z1 z2 hs12 hsw
            generalize ((w12.setCell ⟨sb, 0, none⟩ (.slice none 0 0)).setCell ⟨sb, 1, none⟩ (.int .i64 C2.ver)).setCell ⟨sb, 2, none⟩ (.slice ao12 C2.T.length cp12) = w13 at *
            have hrd : r.b = r10.b := by rw [hrb, hr6]
            rw [hrd]
            clear hrd hrb hr10 hr6
            refine (Writes_any r10 C2.J.D w13 L13.out.ci.1).mono ?_
            rintro e w13 ⟨rfl, rfl⟩
            go_wp2_with fail
            refine (After_any r10 C2.J.D _ w13 L13.out.ci.1 (by have := HLOG.out.1; omega)).mono ?_
            rintro e w15 ⟨r15, rfl, d15, b15, _⟩
            have hnow := after_all L13.out.g
            have R15 := Lib.hid (R13.out.move (CMove.below b15))
            have B15 := Lib.hid (B13.out.trans (b15.mono B13.out.size))
            have D15 := Lib.hid d15
            have S15 := L13.out.g.shows
            have h515 : 5 ≤ (C2.J.D.after (C2.J.D.log.length : Int)).now.length := by rw [hnow]; exact L13.out.g.h5
            rw [← hnow] at S15
            have TL := Lib.hid HT10.out
            clear d15 b15 hnow R13 L13 B13
            go_wp2_with fail
            refine (open_shows r15 _ w15 D15.out h515 S15).mono ?_
            rintro e w16 ⟨b16, cb', jb', mb', n', rfl, hn', hc', hm', hso', hfi'⟩
            have R16 := Lib.hid (R15.out.move (CMove.below b16))
            have B16 := Lib.hid (B15.out.trans (b16.mono B15.out.size))
            have k0 := R16.out.c0
            have k1 := R16.out.c1
            have k2 := R16.out.c2
            have hsm := Lib.hid (same_any cb' jb' mb' n' C2.ver C2.T (.slice none 0 0) _ w16 hc' hm' hso' hfi' (by omega) (by have := TL.out; omega) R16.out.t.b)
            clear hc' hm' hso' hfi' b16 R15 B15 D15 S15 h515
            go_wp2_with (first
              | (go_at_call 16; refine hsm.out.mono ?_; rintro e w17 ⟨rfl, b17⟩; have B17 := Lib.hid (B16.out.trans (b17.mono B16.out.size)); clear b17)
              | (go_at_call 9; refine (lives_any _).mono ?_; rintro e w18 ⟨rfl, b18⟩; have B18 := Lib.hid (B17.out.trans (b18.mono B17.out.size)); clear b18))
            go_ret
            exact ⟨rfl, B18.out⟩
          · have he2' : (e2 == 0) = false := by simpa using he2
            have r11 := RAt.new L10.out R10.out.t (.slice none 0 0) C1.ver
            have b11 := (Below.refl w10.heap.size w10).alloc (Nat.le_refl _) (.cells #[.slice none 0 0, .int .i64 C1.ver, .slice ao7 C1.T.length cp7] 40)
            have hcv : C1.ver = C2.ver := (HE10.out he2).1.symm
            have hcT : C1.T = C2.T := (HE10.out he2).2.symm
            have R13 : Hid (RAt (w10.alloc (.cells #[.slice none 0 0, .int .i64 C1.ver, .slice ao7 C1.T.length cp7] 40)) cb jb mb r10 vr10 w10.heap.size (.slice none 0 0) C2.ver (.slice ao7 C1.T.length cp7) C2.T) := by
              have := r11
              show RAt _ _ _ _ _ _ _ _ _ _ _
              rw [← (HE10.out he2).1.symm, ← (HE10.out he2).2.symm]
              exact this
            have L13 := Lib.hid (L10.out.below b11)
            have B13 := Lib.hid (B10.out.trans (b11.mono B10.out.size))
            clear r11 b11 R10 L10 B10 hcv hcT
            go_wp2_with fail
            clear k1 k2
            obtain ⟨sb, hsb⟩ : ∃ sb, w10.heap.size = sb := ⟨_, rfl⟩
            rw [hsb] at R13 ⊢
            generalize w10.alloc (.cells #[.slice none 0 0, .int .i64 C1.ver, .slice ao7 C1.T.length cp7] 40) = w13 at *
            clear hsb
            have hrd : r.b = r10.b := by rw [hrb, hr6]
            rw [hrd]
            clear hrd hrb hr10 hr6
            refine (Writes_any r10 C2.J.D w13 L13.out.ci.1).mono ?_
            rintro e w13 ⟨rfl, rfl⟩
            go_wp2_with fail
            refine (After_any r10 C2.J.D _ w13 L13.out.ci.1 (by have := HLOG.out.1; omega)).mono ?_
            rintro e w15 ⟨r15, rfl, d15, b15, _⟩
            have hnow := after_all L13.out.g
            have R15 := Lib.hid (R13.out.move (CMove.below b15))
            have B15 := Lib.hid (B13.out.trans (b15.mono B13.out.size))
            have D15 := Lib.hid d15
            have S15 := L13.out.g.shows
            have h515 : 5 ≤ (C2.J.D.after (C2.J.D.log.length : Int)).now.length := by rw [hnow]; exact L13.out.g.h5
            rw [← hnow] at S15
            have TL := Lib.hid HT10.out
            clear d15 b15 hnow R13 L13 B13
            go_wp2_with fail
            refine (open_shows r15 _ w15 D15.out h515 S15).mono ?_
            rintro e w16 ⟨b16, cb', jb', mb', n', rfl, hn', hc', hm', hso', hfi'⟩
            have R16 := Lib.hid (R15.out.move (CMove.below b16))
            have B16 := Lib.hid (B15.out.trans (b16.mono B15.out.size))
            have k0 := R16.out.c0
            have k1 := R16.out.c1
            have k2 := R16.out.c2
            have hsm := Lib.hid (same_any cb' jb' mb' n' C2.ver C2.T (.slice none 0 0) _ w16 hc' hm' hso' hfi' (by omega) (by have := TL.out; omega) R16.out.t.b)
            clear hc' hm' hso' hfi' b16 R15 B15 D15 S15 h515
            go_wp2_with (first
              | (go_at_call 16; refine hsm.out.mono ?_; rintro e w17 ⟨rfl, b17⟩; have B17 := Lib.hid (B16.out.trans (b17.mono B16.out.size)); clear b17)
              | (go_at_call 9; refine (lives_any _).mono ?_; rintro e w18 ⟨rfl, b18⟩; have B18 := Lib.hid (B17.out.trans (b18.mono B17.out.size)); clear b18))
            go_ret
            exact ⟨rfl, B18.out⟩
      · have he1' : (e1 != 0) = true := by simpa using he1
        go_wp2_with (go_at_call 9; refine (lives_any _).mono ?_; rintro e w7 ⟨rfl, b7⟩; have B7 := Lib.hid (B6.out.trans (b7.mono B6.out.size)); clear b7)
        go_ret
        exact ⟨rfl, B7.out⟩
end Go.Proofs.YtjflcpkmoamijaaGreatDoor
