import Derived.Test.YtjflcpkmoamijaaGreatDoorBase
namespace Go.Proofs.YtjflcpkmoamijaaGreatDoor
open Go.RowKit
set_option linter.unusedVariables false
set_option linter.unusedSimpArgs false
set_option linter.unnecessarySimpa false

/-- A reader at block g. -/
def IsRd (w : World) (g : Nat) (s : ByteArray) (at_ : Nat) (err : Int) : Prop := w.heap[g]? = some (.cells #[.string s, .int .i64 at_, .int .i64 err] 153 (0, 0))
theorem IsRd.c0 {w : World} {g : Nat} {s : ByteArray} {a : Nat} {e : Int} (h : IsRd w g s a e) : w.cell? ⟨g, 0, none⟩ = some (.string s) := cell_of_row w g 0 _ _ _ h
theorem IsRd.c1 {w : World} {g : Nat} {s : ByteArray} {a : Nat} {e : Int} (h : IsRd w g s a e) : w.cell? ⟨g, 1, none⟩ = some (.int .i64 a) := cell_of_row w g 1 _ _ _ h
theorem IsRd.c2 {w : World} {g : Nat} {s : ByteArray} {a : Nat} {e : Int} (h : IsRd w g s a e) : w.cell? ⟨g, 2, none⟩ = some (.int .i64 e) := cell_of_row w g 2 _ _ _ h
theorem IsRd.f {w : World} {g : Nat} {s : ByteArray} {a : Nat} {e : Int} (h : IsRd w g s a e) (i : Nat) : w.frozen? ⟨g, i, none⟩ = false := frozen_of_row w g i _ _ h
theorem IsRd.set1 {w : World} {g : Nat} {s : ByteArray} {a : Nat} {e : Int} (h : IsRd w g s a e) (a' : Nat) : IsRd (w.setCell ⟨g, 1, none⟩ (.int .i64 a')) g s a' e := by
  have := heap_setCell_same w g 1 _ _ (.int .i64 a') h
  simpa [IsRd] using this
theorem IsRd.set2 {w : World} {g : Nat} {s : ByteArray} {a : Nat} {e : Int} (h : IsRd w g s a e) (e' : Int) : IsRd (w.setCell ⟨g, 2, none⟩ (.int .i64 e')) g s a e' := by
  have := heap_setCell_same w g 2 _ _ (.int .i64 e') h
  simpa [IsRd] using this
theorem IsRd.fr {w w' : World} {g : Nat} {s : ByteArray} {a : Nat} {e : Int} {S : Nat → Prop} (h : IsRd w g s a e) (k : Fr w w' S) (hn : ¬ S g) : IsRd w' g s a e := k.heap h hn
theorem IsRd.drewN {w : World} {g : Nat} {s : ByteArray} {a : Nat} {e : Int} (h : IsRd w g s a e) (n : Nat) : IsRd (w.drewN n) g s a e := h

def InU64 (m : Int) : Prop := 0 ≤ m ∧ m < 18446744073709551616
def rdStep (m : Int) (c k : Nat) : Int := bits .or .u64 m (IntKind.u64.wrap (IntKind.u64.wrap (bits .and .u8 c 127) * 2 ^ (7 * k)))
def byteAt (s : ByteArray) (a : Nat) : Nat := if h : a < s.size then s[a].toNat else 0
/-- (*wire.Reader).uint: the number, the error, the place behind. -/
def uintGo (s : ByteArray) : Nat → Nat → Nat → Int → Int × Int × Nat
  | 0, _, a, _ => (0, 4, a)
  | f + 1, k, a, m =>
    if s.size ≤ a then (0, 3, a) else
    let c := byteAt s a
    if 128 ≤ c then uintGo s f (k + 1) (a + 1) (rdStep m c k) else
    if (0 < k ∧ c = 0) ∨ (k = 9 ∧ 1 < c) then (0, 4, a + 1) else (rdStep m c k, 0, a + 1)
def uintR (s : ByteArray) (a : Nat) : Int × Int × Nat := uintGo s 10 0 a 0

theorem byteAt_lt (s : ByteArray) (a : Nat) : byteAt s a < 256 := by
  unfold byteAt
  split
  · exact UInt8.toNat_lt _
  · omega
theorem uintGo_zero (s : ByteArray) (k a : Nat) (m : Int) : uintGo s 0 k a m = (0, 4, a) := rfl
theorem uintGo_end {s : ByteArray} {f k a : Nat} {m : Int} (h : s.size ≤ a) : uintGo s (f + 1) k a m = (0, 3, a) := by simp [uintGo, h]
theorem uintGo_on {s : ByteArray} {f k a : Nat} {m : Int} (h : a < s.size) (hc : 128 ≤ byteAt s a) : uintGo s (f + 1) k a m = uintGo s f (k + 1) (a + 1) (rdStep m (byteAt s a) k) := by
  simp [uintGo, Nat.not_le.2 h, hc]
theorem uintGo_bad {s : ByteArray} {f k a : Nat} {m : Int} (h : a < s.size) (hc : byteAt s a < 128) (hb : (0 < k ∧ byteAt s a = 0) ∨ (k = 9 ∧ 1 < byteAt s a)) : uintGo s (f + 1) k a m = (0, 4, a + 1) := by
  simp only [uintGo, Nat.not_le.2 h, if_false, Nat.not_le.2 hc, hb, if_true]
theorem uintGo_ok {s : ByteArray} {f k a : Nat} {m : Int} (h : a < s.size) (hc : byteAt s a < 128) (hb : ¬ ((0 < k ∧ byteAt s a = 0) ∨ (k = 9 ∧ 1 < byteAt s a))) : uintGo s (f + 1) k a m = (rdStep m (byteAt s a) k, 0, a + 1) := by
  simp only [uintGo, Nat.not_le.2 h, if_false, Nat.not_le.2 hc, hb]

/-- What 'uint' leaves. -/
def UintPost (g : Nat) (s : ByteArray) (a0 : Nat) (err : Int) (w : World) (e : Ending) (w' : World) : Prop :=
  e = .returned (.tuple #[.int .u64 (uintR s a0).1, .int .i64 (uintR s a0).2.1]) ∧ IsRd w' g s (uintR s a0).2.2 err ∧ Fr w w' (· = g)
theorem UintPost.mk {g : Nat} {s : ByteArray} {a0 : Nat} {err : Int} {w w' : World} {m e1 : Int} {a : Nat} (h : uintR s a0 = (m, e1, a)) (hr : IsRd w' g s a err) (hf : Fr w w' (· = g)) :
    UintPost g s a0 err w (.returned (.tuple #[.int .u64 m, .int .i64 e1])) w' := by
  unfold UintPost; rw [h]; exact ⟨rfl, hr, hf⟩

set_option maxHeartbeats 800000 in
set_option maxRecDepth 100000 in
theorem uint_any (g : Nat) (s : ByteArray) (at_ : Nat) (err : Int) (w : World) (hs : s.size ≤ 140737488351232) (ha : at_ ≤ s.size) (hr : IsRd w g s at_ err) :
    Calls Tryz.prog 128 #[.pointer (some ⟨g, 0, none⟩)] w (UintPost g s at_ err w) := by
  go_enter Tryz.func128, Tryz.ntmps128
  go_wp2
  go_loopw [4, 5, 6, 7] (fun n i5 c6 i wr => ∃ (k : Nat) (m : Int) (a : Nat), k ≤ 10 ∧ a ≤ s.size ∧ i = .int .i64 k ∧ n = .int .u64 m ∧ Hid (uintR s at_ = uintGo s (10 - k) k a m) ∧ Hid (IsRd wr g s a err) ∧ Hid (Fr w wr (· = g))) (fun _ _ _ i _ => 10 - (intOf i).toNat)
  case atStart => exact ⟨0, 0, at_, by omega, ha, rfl, rfl, rfl, hr, Fr.refl _ _⟩
  case round =>
    obtain ⟨k, m, a, hk, ha', rfl, rfl, HU, HR, HF⟩ := hrel
    have c0 := HR.out.c0
    have c1 := HR.out.c1
    have f1 := HR.out.f 1
    by_cases hk10 : k < 10
    · obtain ⟨f, hf⟩ : ∃ f, 10 - k = f + 1 := ⟨9 - k, by omega⟩
      have hfr : f = 10 - (k + 1) := by omega
      rw [hf, hfr] at HU
      clear hf hfr f
      by_cases hlt : a < s.size
      · have hb : byteAt s a = s[a].toNat := by simp [byteAt, hlt]
        by_cases hc : 128 ≤ s[a].toNat
        · have HC : Hid (uintR s at_ = uintGo s (10 - (k + 1)) (k + 1) (a + 1) (rdStep m s[a].toNat k)) := by
            have := HU.out; rw [uintGo_on hlt (by rw [hb]; exact hc), hb] at this; exact this
          clear hb HU
          have hci : (128 : Int) ≤ (s[a].toNat : Int) := by omega
          go_wp2
          go_quiet (fail)
          go_wp2
          go_quiet (fail)
          go_wp2
          go_roundw
          case rel => exact ⟨k + 1, _, a + 1, by omega, by omega, by go_num, rfl, HC, (HR.out.drewN _).set1 (a + 1), (HF.out.drewN _).setCell _ _ (fun _ => rfl)⟩
          case measure => simp [intOf]; omega
        · have hci : (s[a].toNat : Int) < 128 := by omega
          have HB := Lib.hid hb
          clear hb
          go_wp2
          go_quiet (fail)
          go_wp2
          go_quiet (fail)
          go_wp2
          all_goals
            go_ret2
            refine UintPost.mk ?_ ((HR.out.drewN _).set1 (a + 1)) ((HF.out.drewN _).setCell _ _ (fun _ => rfl))
            rw [HU.out]
            try simp only [beq_iff_eq, beq_eq_false_iff_ne] at *
            first
            | (refine uintGo_bad hlt ?_ ?_ <;> rw [HB.out] <;> omega)
            | (refine (uintGo_ok hlt ?_ ?_).trans ?_
               · rw [HB.out]; omega
               · rw [HB.out]; omega
               · rw [HB.out]; rfl)
      · have HC : Hid (uintR s at_ = (0, 3, a)) := by
          have := HU.out; rw [uintGo_end (by omega)] at this; exact this
        go_wp2
        go_quiet (fail)
        go_wp2
        go_ret2
        exact UintPost.mk HC.out (HR.out.drewN _) (HF.out.drewN _)
    · have HC : Hid (uintR s at_ = (0, 4, a)) := by
          have := HU.out; rw [show 10 - k = 0 by omega, uintGo_zero] at this; exact this
      go_wp2
      go_ret2
      exact UintPost.mk HC.out HR.out HF.out
end Go.Proofs.YtjflcpkmoamijaaGreatDoor
