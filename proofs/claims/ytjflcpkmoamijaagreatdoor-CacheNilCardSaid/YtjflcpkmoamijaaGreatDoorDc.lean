import Derived.Test.YtjflcpkmoamijaaGreatDoorEnc
namespace Go.Proofs.YtjflcpkmoamijaaGreatDoor
open Go.RowKit
set_option linter.unusedVariables false
set_option linter.unusedSimpArgs false
set_option linter.unnecessarySimpa false

theorem info_blob : (Tryz.prog.info? 93).map (fun i => (i.zero, i.size, i.bytes)) = some (some (.agg #[.int .i64 0, .int .i64 0, .int .i64 0, .string ⟨#[]⟩]), 4, 40) := by kernel_rfl
theorem run_build_blob (w : World) (t : Tl) (s : ByteArray) : (Instr.build 93 #[(0, t.v), (1, .string s)]).run Tryz.prog w = .ok (Bl.v ⟨t, s⟩) w := by kernel_rfl
theorem run_build_tile (w : World) (z x y : Int) : (Instr.build 91 #[(0, .int .i64 z), (1, .int .i64 x), (2, .int .i64 y)]).run Tryz.prog w = .ok (Tl.v ⟨z, x, y⟩) w := by kernel_rfl
theorem run_bs_blob (w : World) (b : Bl) : (Instr.buildSlice 35 1 #[(0, b.v)]).run Tryz.prog w = .ok (.slice (some ⟨w.heap.size, 0, none⟩) 1 1) (w.alloc (.cells b.cells.toArray 93)) := by kernel_rfl
/-- Where the reader stands behind three numbers and a text. -/
def rd3 (s : ByteArray) (a : Nat) (er : Int) : Nat × Int := (uintM s (uintM s (uintM s a er).2.1 (uintM s a er).2.2).2.1 (uintM s (uintM s a er).2.1 (uintM s a er).2.2).2.2).2
def rdTile (s : ByteArray) (a : Nat) (er : Int) : Tl :=
  ⟨zig (uintM s a er).1, zig (uintM s (uintM s a er).2.1 (uintM s a er).2.2).1, zig (uintM s (uintM s (uintM s a er).2.1 (uintM s a er).2.2).2.1 (uintM s (uintM s a er).2.1 (uintM s a er).2.2).2.2).1⟩
def rdText (s : ByteArray) (a : Nat) (er : Int) : ByteArray × Nat × Int := textM s (rd3 s a er).1 (rd3 s a er).2 s.size
def decLoop (s : ByteArray) : Nat → Nat → Int → List Bl → (Nat × Int) × List Bl
  | 0, a, er, l => ((a, er), l)
  | n + 1, a, er, l => if (rdText s a er).2.2 ≠ 0 then ((rdText s a er).2, l ++ [⟨rdTile s a er, (rdText s a er).1⟩])
    else decLoop s n (rdText s a er).2.1 (rdText s a er).2.2 (l ++ [⟨rdTile s a er, (rdText s a er).1⟩])
def decP (s : ByteArray) : Int × List Bl × Bool :=
  let c := countM s (uintM s 0 0).2.1 (uintM s 0 0).2.2 s.size
  let r := decLoop s c.1.toNat c.2.1 c.2.2 []
  (zig (uintM s 0 0).1, r.2, doneM s r.1.1 r.1.2 == 0)
theorem countM_le {s : ByteArray} {a : Nat} {er most : Int} (h : a ≤ s.size) : (countM s a er most).2.1 ≤ s.size := by
  unfold countM; split
  · split
    · show (uintR s a).2.2 ≤ _; exact uintR_le h
    · exact h
  · exact h
theorem countM_range {s : ByteArray} {a : Nat} {er most : Int} (h0 : 0 ≤ most) (hm : most ≤ 140737488351232) : 0 ≤ (countM s a er most).1 ∧ (countM s a er most).1 ≤ most := by
  unfold countM; split
  · split
    · rename_i h2; have := countR_range hm h2; exact ⟨this.1, this.2.1⟩
    · exact ⟨Int.le_refl _, h0⟩
  · exact ⟨Int.le_refl _, h0⟩
theorem textM_le {s : ByteArray} {a : Nat} {er most : Int} (h : a ≤ s.size) (hm : most ≤ 140737488351232) : (textM s a er most).2.1 ≤ s.size := by
  unfold textM; split
  · split
    · rename_i h2
      unfold textR at h2 ⊢
      split
      · rename_i h3
        split
        · show (uintR s a).2.2 ≤ _; exact uintR_le h
        · rename_i h4
          have h5 := countR_range hm h3
          have h6 : (countR s a most).2.2 ≤ s.size := uintR_le h
          simp only; omega
      · show (uintR s a).2.2 ≤ _; exact uintR_le h
    · exact h
  · exact h
structure DecInv (w wr : World) (s : ByteArray) (a : Nat) (er : Int) (v : Value) (l : List Bl) : Prop where
  rd : IsRd wr w.heap.size s a er
  own : wr.ownsRow w.heap.size 93 4 v l.length (l.flatMap Bl.cells)
  bel : Below w.heap.size w wr
  lt : w.heap.size < wr.heap.size
def DecPost (s : ByteArray) (w : World) (e : Ending) (w' : World) : Prop :=
  ∃ v, e = .returned (.tuple #[.int .i64 (decP s).1, v, .bool (decP s).2.2]) ∧ w'.ownsRow w.heap.size 93 4 v (decP s).2.1.length ((decP s).2.1.flatMap Bl.cells) ∧ Below w.heap.size w w'
set_option maxHeartbeats 1000000 in
set_option maxRecDepth 100000 in
theorem decode_any (s : ByteArray) (w : World) (hs : s.size ≤ 1000000000) :
    Calls Tryz.prog 46 #[.string s] w (DecPost s w) := by
  have hs' : s.size ≤ 140737488351232 := by omega
  have HS := Lib.hid hs'
  have HS9 := Lib.hid hs
  have HD : Hid (decP s = (zig (uintM s 0 0).1, (decLoop s (countM s (uintM s 0 0).2.1 (uintM s 0 0).2.2 s.size).1.toNat (countM s (uintM s 0 0).2.1 (uintM s 0 0).2.2 s.size).2.1 (countM s (uintM s 0 0).2.1 (uintM s 0 0).2.2 s.size).2.2 []).2,
    doneM s (decLoop s (countM s (uintM s 0 0).2.1 (uintM s 0 0).2.2 s.size).1.toNat (countM s (uintM s 0 0).2.1 (uintM s 0 0).2.2 s.size).2.1 (countM s (uintM s 0 0).2.1 (uintM s 0 0).2.2 s.size).2.2 []).1.1
      (decLoop s (countM s (uintM s 0 0).2.1 (uintM s 0 0).2.2 s.size).1.toNat (countM s (uintM s 0 0).2.1 (uintM s 0 0).2.2 s.size).2.1 (countM s (uintM s 0 0).2.1 (uintM s 0 0).2.2 s.size).2.2 []).1.2 == 0)) := rfl
  have hle1 := uintM_le (err := 0) (Nat.zero_le s.size)
  have HU : ∀ (g : Nat) (w : World), IsRd w g s 0 0 → Calls Tryz.prog 75 #[.pointer (some ⟨g, 0, none⟩)] w (RdPost g s (uintM s 0 0).2 w (.int .i64 (zig (uintM s 0 0).1))) := fun g w h => Int_any g s 0 0 w hs' (Nat.zero_le _) h
  generalize uintM s 0 0 = x1 at *
  obtain ⟨n1, a1, e1⟩ := x1
  simp only at hle1 HU HD
  have hle2 := countM_le (er := e1) (most := s.size) hle1
  have hcr := countM_range (s := s) (a := a1) (er := e1) (most := s.size) (by omega) (by omega)
  have HC : ∀ (g : Nat) (w : World), IsRd w g s a1 e1 → Calls Tryz.prog 76 #[.pointer (some ⟨g, 0, none⟩), .int .i64 s.size] w (RdPost g s (countM s a1 e1 s.size).2 w (.int .i64 (countM s a1 e1 s.size).1)) := fun g w h => Count_any g s a1 e1 s.size w hs' hle1 (by omega) (by omega) h
  generalize countM s a1 e1 s.size = x2 at *
  obtain ⟨n2, a2, e2⟩ := x2
  simp only at hle2 hcr HC HD
  obtain ⟨n, rfl⟩ := Int.eq_ofNat_of_zero_le hcr.1
  have hn : n ≤ s.size := by omega
  have hn9 : n ≤ 1000000000 := by omega
  rw [Int.toNat_natCast] at HD
  clear hs hs' hcr
  go_enter Tryz.func46, Tryz.ntmps46
  go_wp2_with fail
  refine (Read_any s _).mono ?_
  rintro e w2 ⟨rfl, r2, b2⟩
  have R2 := Lib.hid r2
  have B2 := Lib.hid b2
  clear r2 b2
  go_wp2_with fail
  refine (HU _ _ R2.out).mono ?_
  rintro e w3 ⟨rfl, r3, f3⟩
  have b3 : Below w.heap.size w w3 := B2.out.trans (f3.below B2.out.size (by rintro i rfl; omega))
  have R3 := Lib.hid r3
  have B3 := Lib.hid b3
  clear r3 f3 b3 R2 B2 w2
  go_wp2_with fail
  refine (HC _ _ R3.out).mono ?_
  rintro e w4 ⟨rfl, r4, f4⟩
  have b4 : Below w.heap.size w w4 := B3.out.trans (f4.below B3.out.size (by rintro i rfl; omega))
  have I4 : Hid (DecInv w w4 s a2 e2 (.slice none 0 0) []) := ⟨r4, World.ownsRow_nil _ _ _ _, b4, r4.lt⟩
  clear r4 f4 b4 R3 B3 w3 HU HC
  go_wp2_with fail
  go_loopw [8, 19] (fun dv v wr => ∃ (i a : Nat) (er : Int) (l : List Bl), v = .int .i64 i ∧ i ≤ n ∧ Hid (decLoop s n a2 e2 [] = decLoop s (n - i) a er l) ∧ a ≤ s.size ∧ l.length = i ∧ Hid (DecInv w wr s a er dv l)) (fun _ v _ => n - (intOf v).toNat)
  case atStart => exact ⟨0, a2, e2, [], rfl, by omega, rfl, hle2, rfl, I4.out⟩
  case round =>
    obtain ⟨i, a, er, l, rfl, hi, hdl, hal, hll, hI⟩ := hrel
    by_cases hic : i < n
    · have hic' : (i : Int) < (n : Int) := by omega
      have R0 := Lib.hid hI.out.rd
      have hb1 := uintM_le (err := er) hal
      have hb2 := uintM_le (err := (uintM s a er).2.2) hb1
      have hb3 := uintM_le (err := (uintM s (uintM s a er).2.1 (uintM s a er).2.2).2.2) hb2
      have HT3 : Hid (rd3 s a er = (uintM s (uintM s (uintM s a er).2.1 (uintM s a er).2.2).2.1 (uintM s (uintM s a er).2.1 (uintM s a er).2.2).2.2).2) := rfl
      have hb4 := textM_le (s := s) (a := (rd3 s a er).1) (er := (rd3 s a er).2) (most := s.size) (by exact hb3) (by have := HS.out; omega)
      have HSTEP : Hid (decLoop s (n - i) a er l = if (rdText s a er).2.2 ≠ 0 then ((rdText s a er).2, l ++ [⟨rdTile s a er, (rdText s a er).1⟩])
          else decLoop s (n - (i + 1)) (rdText s a er).2.1 (rdText s a er).2.2 (l ++ [⟨rdTile s a er, (rdText s a er).1⟩])) := by
        show _ = _
        rw [show n - i = (n - (i + 1)) + 1 by omega]; rfl
      have C1 := Lib.hid (Int_any w.heap.size s a er wr HS.out hal R0.out)
      go_wp2_with fail
      refine C1.out.mono ?_
      rintro e w5 ⟨rfl, r5, f5⟩
      have R5 := Lib.hid r5
      have F5 := Lib.hid f5
      clear r5 f5 C1
      go_wp2_with fail
      refine (Int_any w.heap.size s _ _ w5 HS.out hb1 R5.out).mono ?_
      rintro e w6 ⟨rfl, r6, f6⟩
      have R6 := Lib.hid r6
      have F6 := Lib.hid (F5.out.tr f6)
      clear r6 f6 R5 F5
      go_wp2_with fail
      refine (Int_any w.heap.size s _ _ w6 HS.out hb2 R6.out).mono ?_
      rintro e w7 ⟨rfl, r7, f7⟩
      have R7 := Lib.hid r7
      have F7 := Lib.hid (F6.out.tr f7)
      clear r7 f7 R6 F6
      have HTILE : Hid (rdTile s a er = ⟨zig (uintM s a er).1, zig (uintM s (uintM s a er).2.1 (uintM s a er).2.2).1, zig (uintM s (uintM s (uintM s a er).2.1 (uintM s a er).2.2).2.1 (uintM s (uintM s a er).2.1 (uintM s a er).2.2).2.2).1⟩) := rfl
      have R7b : Hid (IsRd w7 w.heap.size s (rd3 s a er).1 (rd3 s a er).2) := by show IsRd _ _ _ _ _; rw [HT3.out]; exact R7.out
      have hb3' : (rd3 s a er).1 ≤ s.size := by rw [HT3.out]; exact hb3
      clear R7 hb1 hb2 hb3 R0 HT3
      generalize zig (uintM s (uintM s (uintM s a er).2.1 (uintM s a er).2.2).2.1 (uintM s (uintM s a er).2.1 (uintM s a er).2.2).2.2).1 = ty at *
      generalize zig (uintM s (uintM s a er).2.1 (uintM s a er).2.2).1 = tx at *
      generalize zig (uintM s a er).1 = tz at *
      have hbt := fun w => run_build_tile w tz tx ty
      have hlt7 : w.heap.size < w7.heap.size := R7b.out.lt
      have hb7 : Below w.heap.size w w7 := hI.out.bel.trans (F7.out.below hI.out.bel.size (by rintro i rfl; omega))
      have own7 : w7.ownsRow w.heap.size 93 4 u8 l.length (l.flatMap Bl.cells) := F7.out.owns hI.out.own (fun k hk => own_ne hI.out.own hI.out.rd (by decide) hk)
      have t8 : (w7.alloc (.cells #[.int .i64 tz, .int .i64 tx, .int .i64 ty] 91)).rangeAt w7.heap.size 0 (Tl.mk tz tx ty).cells := by
        intro j u hj; rw [Nat.zero_add, World.cell?_alloc_new, ← hj]; simp [Tl.cells]
      have R8 : Hid (IsRd (w7.alloc (.cells #[.int .i64 tz, .int .i64 tx, .int .i64 ty] 91)) w.heap.size s (rd3 s a er).1 (rd3 s a er).2) := R7b.out.alloc _
      have HT8 := Lib.hid t8
      have HB8 := Lib.hid (hb7.alloc hb7.size (.cells #[.int .i64 tz, .int .i64 tx, .int .i64 ty] 91))
      have HO8 := Lib.hid (own7.alloc (.cells #[.int .i64 tz, .int .i64 tx, .int .i64 ty] 91))
      have HL8 : Hid (w7.heap.size < (w7.alloc (.cells #[.int .i64 tz, .int .i64 tx, .int .i64 ty] 91)).heap.size) := by show _ < _; simp
      have HE8 : Hid ((w7.alloc (.cells #[.int .i64 tz, .int .i64 tx, .int .i64 ty] 91)).heap[w7.heap.size]? = some (.cells #[.int .i64 tz, .int .i64 tx, .int .i64 ty] 91 (0, 0))) := heap_alloc_new w7 _
      clear hb7 own7 t8 R7b F7 hI
      go_wp2_with fail
      generalize w7.alloc (.cells #[.int .i64 tz, .int .i64 tx, .int .i64 ty] 91) = w8 at *
      have hS : w8.drew.rangeAt w7.heap.size 0 (Tl.mk tz tx ty).cells := HT8.out
      refine region_seq (fun w' => w'.rangeAt w7.heap.size 0 (Tl.mk tz tx ty).cells) []
        [(.p, 0), (.q, 1), (.p, 2), (.p, 3), (.p, 4), (.l, 5), (.p, 6), (.l, 7), (.l, 8), (.p, 9)] (by kernel_rfl) (by kernel_rfl) (by kernel_rfl) (by kernel_rfl) (fun d v c a w h => by cases d <;> exact h) ?_
      (refine seq_p (N := some 28) rfl rfl (by rfl) ?_ (fun w' => ?_) ?_
       rotate_left
       · go_simp
         with_reducible rfl
       simp only [Act.put, List.setIfInBounds_toArray, List.set_cons_zero, List.set_cons_succ])
      (refine seq_q (N := some 29) rfl rfl (by rfl) (Tl.mk tz tx ty).v ?_ hS ?_
       · intro w' s1
         exact run_ld rfl rfl (load_tile s1)
       simp only [Act.put, List.setIfInBounds_toArray, List.set_cons_zero, List.set_cons_succ])
      (refine seq_p (N := some 30) rfl rfl (by rfl) ?_ (fun w' => ?_) ?_
       rotate_left
       · go_simp
         with_reducible rfl
       simp only [Act.put, List.setIfInBounds_toArray, List.set_cons_zero, List.set_cons_succ])
      (refine seq_p (N := some 31) rfl rfl (by rfl) ?_ (fun w' => ?_) ?_
       rotate_left
       · go_simp
         with_reducible rfl
       simp only [Act.put, List.setIfInBounds_toArray, List.set_cons_zero, List.set_cons_succ])
      (refine seq_p (N := some 32) rfl rfl (by rfl) ?_ (fun w' => ?_) ?_
       rotate_left
       · go_simp
         with_reducible rfl
       simp only [Act.put, List.setIfInBounds_toArray, List.set_cons_zero, List.set_cons_succ])
      refine seq_l rfl (by rfl) (wp_cl (N := some 33) (f := 77) (vs := #[.pointer (some ⟨w.heap.size, 0, none⟩), .int .i64 s.size]) rfl rfl (by simp [Act.eval]) (callF Tryz.func77 rfl (by decide) _ _) ?_)
      refine (Text_any w.heap.size s _ _ s.size w8.drew HS.out hb3' (by omega) (by have := HS.out; omega) R8.out).mono ?_
      rintro e w9 ⟨rfl, r9, f9⟩
      have F9 : Fr w8 w9 (· = w.heap.size) := ((Fr.refl w8 _).drew).tr f9
      have hne9 : ¬ (w7.heap.size = w.heap.size) := by omega
      have R9 : Hid (IsRd w9 w.heap.size s (rdText s a er).2.1 (rdText s a er).2.2) := r9
      have HT9 := Lib.hid (rangeAt_fr HT8.out F9 hne9)
      have HE9 := Lib.hid (F9.heap HE8.out hne9)
      have HB9 := Lib.hid (HB8.out.trans (F9.below HB8.out.size (by rintro i rfl; omega)))
      have HO9 := Lib.hid (F9.owns HO8.out (fun k hk => own_ne HO8.out R8.out (by decide) hk))
      have hb4' : (rdText s a er).2.1 ≤ s.size := hb4
      have HX9 : Hid (textM s (rd3 s a er).1 (rd3 s a er).2 s.size = rdText s a er) := rfl
      refine ⟨_, rfl, ?_⟩
      simp only [Act.put, List.setIfInBounds_toArray, List.set_cons_zero, List.set_cons_succ]
      rw [HX9.out]
      refine ⟨fun _ => HT9.out, ?_⟩
      clear r9 f9 F9 hS hb4 HX9 hne9 R8 HT8 HE8 HB8 HO8 HL8
      generalize rdText s a er = rt at *
      obtain ⟨tt, a9, e9⟩ := rt
      simp only at HSTEP R9 hb4'
      have hS : w9.rangeAt w7.heap.size 0 (Tl.mk tz tx ty).cells := HT9.out
      refine seq_p (N := some 34) rfl rfl (by rfl) (Bl.v ⟨⟨tz, tx, ty⟩, tt⟩) (fun w' => run_bd (ps := #[(0, (Tl.mk tz tx ty).v), (1, .string tt)]) rfl (by simp [Act.eval]) (run_build_blob w' ⟨tz, tx, ty⟩ tt)) ?_
      simp only [Act.put, List.setIfInBounds_toArray, List.set_cons_zero, List.set_cons_succ]
      refine seq_l rfl (by rfl) (wp_bs (N := some 35) (ps := #[(0, Bl.v ⟨⟨tz, tx, ty⟩, tt⟩)]) rfl rfl (by simp [Act.eval]) (run_bs_blob _ ⟨⟨tz, tx, ty⟩, tt⟩) ?_)
      simp only [Act.put, List.setIfInBounds_toArray, List.set_cons_zero, List.set_cons_succ]
      refine ⟨fun _ => rangeAt_fr HT9.out ((Fr.refl _ Nowhere).alloc _) (fun h => h), ?_⟩
      refine seq_l rfl (by rfl) (wp_app1 (W := w9) (N := some 36) (Bl.mk ⟨tz, tx, ty⟩ tt).cells.toArray _ _ 35 93 (.agg #[.int .i64 0, .int .i64 0, .int .i64 0, .string ⟨#[]⟩]) 4 40 w.heap.size rfl rfl Tryz.underlying35 info_blob rfl (by omega) (by omega) u8 l.length (l.flatMap Bl.cells) rfl rfl rfl (by intro u hu; simp [Bl.cells] at hu; rcases hu with rfl | rfl | rfl | rfl <;> rfl) HO9.out HB9.out.size (by have := HS9.out; omega) ?_)
      intro v10 w10 hown10 hg10 hat10
      simp only [Act.put, List.setIfInBounds_toArray, List.set_cons_zero, List.set_cons_succ]
      have hT10 : w10.rangeAt w7.heap.size 0 (Tl.mk tz tx ty).cells := rangeAt_fr (S := fun k => u8.ownBlock = some k) HT9.out (Fr.grown hg10 (fun k hk _ => hk)) (fun e => own_ne HO9.out HE9.out (by decide) e rfl)
      refine ⟨fun _ => hT10, ?_⟩
      have HI : Hid (DecInv w w10 s a9 e9 v10 (l ++ [⟨⟨tz, tx, ty⟩, tt⟩])) := by
        refine ⟨?_, ?_, ?_, ?_⟩
        · exact R9.out.fr (S := fun k => u8.ownBlock = some k) (Fr.grown hg10 (fun k hk _ => hk)) (fun e => own_ne HO9.out R9.out (by decide) e rfl)
        · have e1 : (l ++ [(⟨⟨tz, tx, ty⟩, tt⟩ : Bl)]).flatMap Bl.cells = l.flatMap Bl.cells ++ (Bl.mk ⟨tz, tx, ty⟩ tt).cells.toArray.toList := by simp
          rw [e1, List.length_append]; exact hown10
        · exact HB9.out.trans ((Fr.grown (S := fun k => u8.ownBlock = some k) hg10 (fun k hk _ => hk)).below HB9.out.size (fun k hk => (own_base' HO9.out hk).1))
        · exact Nat.lt_of_lt_of_le R9.out.lt hg10.size
      have hcell : v10.oneCell' = true := own_cell hown10
      clear hown10 hg10 hat10 hT10 hS HT9 HE9 HB9 HO9
      (refine seq_p (N := some 8) rfl rfl (by rfl) ?_ (fun w' => ?_) ?_
       rotate_left
       · go_simp
         with_reducible rfl
       simp only [Act.put, List.setIfInBounds_toArray, List.set_cons_zero, List.set_cons_succ])
      refine seq_nil ?_
      have C10 := Lib.hid (Err_any _ _ _ _ _ HI.out.rd)
      by_cases he9 : e9 = 0
      · subst he9
        have HSTEP2 : Hid (decLoop s n a2 e2 [] = decLoop s (n - (i + 1)) a9 0 (l ++ [⟨⟨tz, tx, ty⟩, tt⟩])) := by
          show _ = _; rw [hdl.out, HSTEP.out, if_neg (by simp), HTILE.out]
        go_wp2_with (refine C10.out.mono ?_; rintro e w11 ⟨rfl, rfl⟩)
        go_roundw
        case rel => exact ⟨i + 1, a9, 0, _, by go_num, by omega, HSTEP2.out, hb4', by simp; omega, HI.out⟩
        case measure => simp [intOf]; omega
      · have HSTEP2 : Hid (decLoop s n a2 e2 [] = ((a9, e9), l ++ [⟨⟨tz, tx, ty⟩, tt⟩])) := by
          show _ = _; rw [hdl.out, HSTEP.out, if_pos he9, HTILE.out]
        have hfin : decP s = (zig n1, l ++ [⟨⟨tz, tx, ty⟩, tt⟩], doneM s a9 e9 == 0) := by
          rw [HD.out, HSTEP2.out]
        have HFIN := Lib.hid hfin
        clear hfin
        have D10 := Lib.hid (Done_any _ _ _ _ _ HS.out hb4' HI.out.rd)
        go_wp2_with (first
          | (refine C10.out.mono ?_; rintro e w11 ⟨rfl, rfl⟩)
          | (refine D10.out.mono ?_; rintro e w12 ⟨rfl, nd, rfl⟩))
        go_ret3
        refine ⟨v10, by rw [HFIN.out]; rfl, by rw [HFIN.out]; exact HI.out.own, below_drewN HI.out.bel _⟩
    · have hic' : ¬ (i : Int) < (n : Int) := by omega
      have hdl2 : decLoop s n a2 e2 [] = ((a, er), l) := by rw [hdl.out, show n - i = 0 by omega]; rfl
      have hfin : decP s = (zig n1, l, doneM s a er == 0) := by
        rw [HD.out, hdl2]
      have HFIN := Lib.hid hfin
      clear hfin
      have D10 := Lib.hid (Done_any _ _ _ _ _ HS.out hal hI.out.rd)
      clear hdl2
      go_wp2_with (refine D10.out.mono ?_; rintro e w12 ⟨rfl, nd, rfl⟩)
      go_ret3
      refine ⟨u8, by rw [HFIN.out]; rfl, by rw [HFIN.out]; exact hI.out.own, below_drewN hI.out.bel _⟩
end Go.Proofs.YtjflcpkmoamijaaGreatDoor
