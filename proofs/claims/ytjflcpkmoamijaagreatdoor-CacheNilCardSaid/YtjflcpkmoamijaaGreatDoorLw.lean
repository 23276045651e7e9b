import Derived.Test.YtjflcpkmoamijaaGreatDoorSa
namespace Go.Proofs.YtjflcpkmoamijaaGreatDoor
open Go.RowKit
set_option linter.unusedVariables false
set_option linter.unusedSimpArgs false
set_option linter.unnecessarySimpa false

theorem CIn.below {w w' : World} {B : Nat} {r : DRef} {cb jb mb n : Nat} {vr : Value} {C : Cn} (h : CIn w B r cb jb mb n vr C) (k : Below w.heap.size w w') : CIn w' B r cb jb mb n vr C := ⟨h.1.below k, h.2.below k⟩
theorem CIn.lt {w : World} {B : Nat} {r : DRef} {cb jb mb n : Nat} {vr : Value} {C : Cn} (h : CIn w B r cb jb mb n vr C) {k : Nat} (hk : cfoot r cb jb mb vr k) : k < w.heap.size := by
  rcases hk with hk | rfl | rfl | rfl | hk
  · exact h.1.lt hk
  · exact lt_of_heap h.2.c
  · exact h.2.m.lt
  · exact h.2.j.lt
  · exact (own_base' h.2.j.hr hk).2
theorem own_slice {w : World} {B : Nat} {e : TypeId} {size n : Nat} {v : Value} {xs : List Value} (h : w.ownsRow B e size v n xs) : ∃ ao c, v = .slice ao n c := by
  rcases h.2 with ⟨hv, h0⟩ | ⟨g, cap, cur, hv, _⟩
  · exact ⟨none, 0, by rw [hv, h0]⟩
  · exact ⟨_, _, hv⟩
set_option maxHeartbeats 2000000 in
set_option maxRecDepth 100000 in
theorem lives_any (w : World) : Calls Tryz.prog 9 #[] w fun e w' => e = .returned (.bool true) ∧ Below w.heap.size w w' := by
  have hst := Lib.hid (start_any 9 w (by omega) (by omega) lv0')
  go_enter Tryz.func9, Tryz.ntmps9
  go_wp2_with fail
  refine hst.out.mono ?_
  rintro e w1 ⟨r, cb, jb, mb, n, vr, rfl, c1, hn, b1, f1⟩
  have C1 : Hid (CIn w1 w.heap.size r cb jb mb n vr cn0) := c1
  have B1 := Lib.hid b1
  have F1 := Lib.hid f1
  clear c1 b1 f1 hst
  go_wp2_with (go_at_call 27; refine (Version_any cb jb mb (-1) w1 C1.out.2.c).mono ?_; rintro e w2 ⟨rfl, rfl⟩)
  refine (Tiles_any cb jb mb n (-1) [] _ C1.out.2.c C1.out.2.m C1.out.2.so C1.out.2.fi (by omega)).mono ?_
  rintro e w3 ⟨v3, rfl, o3, b3⟩
  obtain ⟨ao, cp, rfl⟩ := own_slice o3
  have C3 := Lib.hid (C1.out.below b3)
  have B3 := Lib.hid (B1.out.trans (b3.mono B1.out.size))
  clear o3 b3 C1 B1
  go_wp2_with fail
  refine (blob_any ⟨#[120]⟩ w3).mono ?_
  rintro e w4 ⟨v4, rfl, o4, b4⟩
  have C4 := Lib.hid (C3.out.below b4)
  have B4 := Lib.hid (B3.out.trans (b4.mono B3.out.size))
  have N4 : Hid (∀ k, v4.ownBlock = some k → ¬ cfoot r cb jb mb vr k) := by
    intro k hk hc
    have h1 := (own_base' o4 hk).1
    have h2 := C3.out.lt hc
    omega
  have V4 : Hid (BlobsAt w4 v4 bx) := own_blobs (l := bx) o4
  clear o4 b4 C3 B3
  go_wp2_with fail
  refine (Put_any r cb jb mb w.heap.size n vr cn0 0 v4 bx w4 C4.out B4.out.size V4.out N4.out ⟨by decide, by decide⟩ (by decide) (by decide) (by omega) (by decide) (by decide) (by decide)).mono ?_
  rintro e w5 ⟨rfl, r5, vr5, n5, hn5, c5, e5, f5, s5⟩
  rw [lv1]
  have C5 : Hid (CIn w5 w.heap.size r5 cb jb mb n5 vr5 cn1) := c5
  have B5 := Lib.hid (B4.out.trans (f5.below B4.out.size F1.out))
  have F5 : Hid (∀ k, cfoot r5 cb jb mb vr5 k → w.heap.size ≤ k) := by
    intro k hk
    by_cases h : k < w4.heap.size
    · exact F1.out k (s5 k h hk)
    · have := B4.out.size; omega
  clear c5 f5 s5 C4 B4 N4 V4 F1
  have hT5 : CIn w5 w.heap.size r5 cb jb mb n5 vr5 cn1 := C5.out
  go_wp2_with fail
  refine (Tiles_any cb jb mb n5 cn1.ver cn1.T w5 C5.out.2.c C5.out.2.m C5.out.2.so C5.out.2.fi (by omega)).mono ?_
  rintro e w6 ⟨v6, rfl, o6, b6⟩
  have C6 := Lib.hid (C5.out.below b6)
  have B6 := Lib.hid (B5.out.trans (b6.mono B5.out.size))
  have N6 : Hid (∀ k, v6.ownBlock = some k → ¬ cfoot r5 cb jb mb vr5 k) := by
    intro k hk hc
    have h1 := (own_base' o6 hk).1
    have h2 := C5.out.lt hc
    omega
  have V6 : Hid (BlobsAt w6 v6 bx) := by
    have := own_blobs o6
    rw [lv1T] at this
    exact this
  clear o6 b6 C5 B5 hT5
  go_wp2_with fail
  refine (blob_any ⟨#[]⟩ w6).mono ?_
  rintro e w7 ⟨v7, rfl, o7, b7⟩
  have C7 := Lib.hid (C6.out.below b7)
  have B7 := Lib.hid (B6.out.trans (b7.mono B6.out.size))
  have N7 : Hid (∀ k, v7.ownBlock = some k → ¬ cfoot r5 cb jb mb vr5 k) := by
    intro k hk hc
    have h1 := (own_base' o7 hk).1
    have h2 := C6.out.lt hc
    omega
  have V7 : Hid (BlobsAt w7 v7 be) := own_blobs (l := be) o7
  have V67 := Lib.hid (V6.out.fr (Fr.of_below b7 Nowhere) (fun _ _ h => h))
  clear o7 b7 C6 B6 V6
  go_wp2_with fail
  refine (Put_any r5 cb jb mb w.heap.size n5 vr5 cn1 1 v7 be w7 C7.out B7.out.size V7.out N7.out ⟨by decide, by decide⟩ (by decide) (by decide) (by omega) lvn.1 lvn.2.1 lvn.2.2.1).mono ?_
  rintro e w8 ⟨rfl, r8, vr8, n8, hn8, c8, e8, f8, s8⟩
  rw [lv2]
  have C8 : Hid (CIn w8 w.heap.size r8 cb jb mb n8 vr8 cn2) := c8
  have B8 := Lib.hid (B7.out.trans (f8.below B7.out.size F5.out))
  have V8 := Lib.hid (V67.out.fr f8 N6.out)
  clear c8 f8 s8 C7 B7 N7 V7 V67 N6 F5
  have hrb : r8.b = r.b := e8.trans e5
  go_wp2_with fail
  rw [← hrb]
  refine (COpen_any r8 cn2.J.D w8 C8.out.1 (by rw [lvn.2.2.2]; omega)).mono ?_
  rintro e w9 ⟨b9, h9⟩
  obtain ⟨q, hq1, hq2⟩ := Option.bind_eq_some_iff.1 lv3
  obtain ⟨ep, u, l⟩ := q
  simp only at hq2
  rw [hq1] at h9
  simp only at h9
  rw [hq2] at h9
  obtain ⟨cb9, jb9, mb9, n9, vr9, rfl, _, _, _, hn9, c9⟩ := h9
  have C9 := Lib.hid (C8.out.below b9)
  have O9 := Lib.hid c9.c
  have B9 := Lib.hid (B8.out.trans (b9.mono B8.out.size))
  have V9 := Lib.hid (V8.out.fr (Fr.of_below b9 Nowhere) (fun _ _ h => h))
  clear b9 c9 C8 B8 V8 hq1 hq2
  go_wp2_with fail
  refine (blob_any ⟨#[120]⟩ w9).mono ?_
  rintro e w10 ⟨v10, rfl, o10, b10⟩
  have C10 := Lib.hid (C9.out.below b10)
  have B10 := Lib.hid (B9.out.trans (b10.mono B9.out.size))
  have O10 : Hid (CCell w10 cb9 jb9 mb9 1) := O9.out.fr (Fr.of_below b10 Nowhere) (fun h => h)
  have V10 : Hid (BlobsAt w10 v10 bx) := own_blobs (l := bx) o10
  have V6b := Lib.hid (V9.out.fr (Fr.of_below b10 Nowhere) (fun _ _ h => h))
  clear o10 b10 C9 B9 V9 O9
  go_wp2_with fail
  refine (Same_any v6 v10 bx bx w10 V6b.out V10.out (by decide) (by decide)).mono ?_
  rintro e w11 ⟨rfl, b11⟩
  have hdec : decide (bx = bx) = true := decide_eq_true rfl
  rw [hdec]
  have C11 := Lib.hid (C10.out.below b11)
  have B11 := Lib.hid (B10.out.trans (b11.mono B10.out.size))
  have O11 : Hid (CCell w11 cb9 jb9 mb9 1) := O10.out.fr (Fr.of_below b11 Nowhere) (fun h => h)
  clear b11 C10 B10 V10 O10 V6b hdec
  go_wp2_with fail
  refine (Tiles_any cb jb mb n8 cn2.ver cn2.T w11 C11.out.2.c C11.out.2.m C11.out.2.so C11.out.2.fi (by omega)).mono ?_
  rintro e w12 ⟨v12, rfl, o12, b12⟩
  rw [lv2T] at o12
  obtain ⟨ao12, cp12, rfl⟩ := own_slice o12
  have C12 := Lib.hid (C11.out.below b12)
  have B12 := Lib.hid (B11.out.trans (b12.mono B11.out.size))
  have O12 : Hid (CCell w12 cb9 jb9 mb9 1) := O11.out.fr (Fr.of_below b12 Nowhere) (fun h => h)
  clear o12 b12 C11 B11 O11
  have hv := Lib.hid (Version_any cb jb mb cn2.ver w12 C12.out.2.c)
  rw [lv2v] at hv
  have hv9 := Lib.hid (Version_any cb9 jb9 mb9 1 w12 O12.out)
  go_wp2_with (first
    | (go_at_call_of 27 cb; refine hv.out.mono ?_; rintro e w13 ⟨rfl, rfl⟩)
    | (go_at_call_of 27 cb9; refine hv9.out.mono ?_; rintro e w13 ⟨rfl, rfl⟩)
    | (go_at_call 20; refine (CFormat_nil _).mono ?_; rintro e w13 ⟨rfl, rfl⟩))
  go_ret
  exact ⟨rfl, B12.out⟩
end Go.Proofs.YtjflcpkmoamijaaGreatDoor
