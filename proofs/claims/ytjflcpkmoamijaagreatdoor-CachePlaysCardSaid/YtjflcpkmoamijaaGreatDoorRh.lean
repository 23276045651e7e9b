import Derived.Test.YtjflcpkmoamijaaGreatDoorRg2
namespace Go.Proofs.YtjflcpkmoamijaaGreatDoor
open Go.RowKit
set_option linter.unusedVariables false
set_option linter.unusedSimpArgs false
set_option linter.unnecessarySimpa false

def RdvPost (s : ByteArray) (x : Value) (r : Nat × Int) (w : World) (e : Ending) (w' : World) : Prop := e = .returned (.tuple #[rdv s r.1 r.2, x]) ∧ Below w.heap.size w w'
theorem uintGo_ge (s : ByteArray) : ∀ f k a m, a ≤ (uintGo s f k a m).2.2 ∧ ((uintGo s f k a m).2.1 ≠ 0 → (uintGo s f k a m).1 = 0) := by
  intro f
  induction f with
  | zero => intro k a m; exact ⟨Nat.le_refl _, fun _ => rfl⟩
  | succ f ih =>
    intro k a m
    by_cases h1 : s.size ≤ a
    · rw [uintGo_end h1]; exact ⟨Nat.le_refl _, fun _ => rfl⟩
    · by_cases h2 : 128 ≤ byteAt s a
      · rw [uintGo_on (by omega) h2]
        have := ih (k + 1) (a + 1) (rdStep m (byteAt s a) k)
        exact ⟨by omega, this.2⟩
      · by_cases h3 : (0 < k ∧ byteAt s a = 0) ∨ (k = 9 ∧ 1 < byteAt s a)
        · rw [uintGo_bad (by omega) (by omega) h3]; exact ⟨by dsimp only; omega, fun _ => rfl⟩
        · rw [uintGo_ok (by omega) (by omega) h3]; exact ⟨by dsimp only; omega, fun h => absurd rfl h⟩
theorem nxt_range (s : ByteArray) (a : Nat) (ha : a ≤ s.size) : 0 ≤ (nxt s a).1 ∧ (nxt s a).1 < 18446744073709551616 ∧ a + (nxt s a).2.1 ≤ s.size := by
  have h1 := uintR_range s a
  have h2 := uintR_le ha
  have h3 : a ≤ (uintR s a).2.2 := (uintGo_ge s 10 0 a 0).1
  unfold nxt
  refine ⟨h1.1, h1.2, ?_⟩
  dsimp only
  split <;> omega
theorem uintM_nxt (s : ByteArray) (a : Nat) : uintM s a 0 = ((nxt s a).1, a + (nxt s a).2.1, (nxt s a).2.2) := by
  have h3 : a ≤ (uintR s a).2.2 := (uintGo_ge s 10 0 a 0).1
  have h4 : (uintR s a).2.1 ≠ 0 → (uintR s a).1 = 0 := (uintGo_ge s 10 0 a 0).2
  unfold uintM nxt
  rw [if_pos rfl]
  by_cases h : (uintR s a).2.1 = 0
  · rw [if_pos h, if_pos h, h]
    simp only
    congr 2
    omega
  · rw [if_neg h, if_neg h, h4 h]
    rfl
theorem two_boxes (w w3 : World) (c1 c2 : Array Value) (t : TypeId) (b3 : Below ((w.alloc (.cells c1 t)).alloc (.cells c2 t)).heap.size ((w.alloc (.cells c1 t)).alloc (.cells c2 t)) w3) :
    w3.heap[w.heap.size]? = some (.cells c1 t (0, 0)) ∧ w3.heap[w.heap.size + 1]? = some (.cells c2 t (0, 0)) ∧ Below w.heap.size w w3 := by
  have h0 := heap_alloc_new w (.cells c1 t)
  have h1 := Below.heap_alloc (w.alloc (.cells c1 t)) (.cells c2 t) w.heap.size (by simp)
  have h2 := heap_alloc_new (w.alloc (.cells c1 t)) (.cells c2 t)
  rw [h0] at h1
  simp only [World.size_alloc] at h2
  refine ⟨(b3.block _ (by simp; omega)).trans h1, (b3.block _ (by simp)).trans h2, ?_⟩
  have b1 := (Below.refl w.heap.size w).alloc (Nat.le_refl _) (.cells c1 t)
  have b2 := b1.alloc b1.size (.cells c2 t)
  exact b2.trans (b3.mono b2.size)
theorem set3 {B : Nat} {w0 w : World} (h : Below B w0 w) {b : Nat} (hb : B ≤ b) (v0 v1 v2 : Value) : Below B w0 (((w.setCell ⟨b, 0, none⟩ v0).setCell ⟨b, 1, none⟩ v1).setCell ⟨b, 2, none⟩ v2) :=
  ((h.setCell (p := ⟨b, 0, none⟩) hb v0).setCell (p := ⟨b, 1, none⟩) hb v1).setCell (p := ⟨b, 2, none⟩) hb v2
theorem one_box (w w3 : World) (c1 : Array Value) (t : TypeId) (b3 : Below (w.alloc (.cells c1 t)).heap.size (w.alloc (.cells c1 t)) w3) :
    w3.heap[w.heap.size]? = some (.cells c1 t (0, 0)) ∧ Below w.heap.size w w3 := by
  have h0 := heap_alloc_new w (.cells c1 t)
  have b1 := (Below.refl w.heap.size w).alloc (Nat.le_refl _) (.cells c1 t)
  exact ⟨(b3.block _ (by simp)).trans h0, b1.trans (b3.mono b1.size)⟩
/-- A function that returns a reader and something. -/
theorem ret_rt {fn : Func} {R : Ending → World → Prop} {a : Act} {w : World} {c t : Tmp} (hres : fn.results = #[.cell c 126, .tmp t]) (b : Nat) (hc : a.tmps.getD c undef = .pointer (some ⟨b, 0, none⟩)) (s : ByteArray) (p : Nat) (e : Int)
    (hg : w.heap[b]? = some (.cells #[.string s, .int .i64 p, .int .i64 e] 126 (0, 0))) (hd : a.defers = []) (hR : R (.returned (.tuple #[rdv s p e, a.tmps.getD t undef])) w) : bodyPost Tryz.prog fn R .ret a w := by
  have hl := run_loadVar_row (P := Tryz.prog) w b 126 126 _ _ _ hg Tryz.underlying126 rfl (by kernel_rfl)
  refine bodyPost_ret (v := .tuple #[rdv s p e, a.tmps.getD t undef]) ?_ hd hR
  unfold results
  rw [hres]
  have hc' : a.tmps[c]?.getD undef = .pointer (some ⟨b, 0, none⟩) := by simpa using hc
  simp [hc', asAddr, hl, rdv]
theorem heap3 {w : World} {b : Nat} {c0 c1 c2 : Value} {t : TypeId} (h : w.heap[b]? = some (.cells #[c0, c1, c2] t (0, 0))) (v0 v1 v2 : Value) :
    (((w.setCell ⟨b, 0, none⟩ v0).setCell ⟨b, 1, none⟩ v1).setCell ⟨b, 2, none⟩ v2).heap[b]? = some (.cells #[v0, v1, v2] t (0, 0)) := by
  have h0 := heap_setCell_same w b 0 _ _ v0 h
  have h1 := heap_setCell_same _ b 1 _ _ v1 h0
  have h2 := heap_setCell_same _ b 2 _ _ v2 h1
  rw [h2]; rfl
set_option maxHeartbeats 1000000 in
set_option maxRecDepth 100000 in
theorem RUint_any (s : ByteArray) (a : Nat) (er : Int) (w : World) (hs : s.size ≤ 140737488351232) (ha : a ≤ s.size) :
    Calls Tryz.prog 112 #[rdv s a er] w (RdvPost s (.int .u64 (uintM s a er).1) (uintM s a er).2 w) := by
  have b1 := (Below.refl w.heap.size w).alloc (Nat.le_refl _) (.cells #[.string s, .int .i64 a, .int .i64 er] 126)
  by_cases he : er = 0
  · subst he
    rw [uintM_nxt]
    have hr := nxt_range s a ha
    have HN : Hid (∀ w, Calls Tryz.prog 113 #[rdv s a 0] w fun e w' => e = .returned (.tuple #[.int .u64 (nxt s a).1, .int .i64 (nxt s a).2.1, .int .i64 (nxt s a).2.2]) ∧ Below w.heap.size w w') := fun w => next_any s a 0 w hs ha
    have hr3 := hr.2.2
    clear hr
    generalize nxt s a = x at *
    obtain ⟨n, k, e⟩ := x
    simp only at hr3 HN ⊢
    obtain ⟨ak, hak⟩ : ∃ ak : Nat, (a : Int) + k = ak := ⟨a + k, by simp⟩
    have hak2 : a + k = ak := by omega
    rw [hak2]
    have hakl : ak ≤ 140737488351232 := by omega
    have B1 := Lib.hid b1
    clear b1 hak2 hr3
    unfold rdv at HN ⊢
    go_enter Tryz.func112, Tryz.ntmps112
    go_wp2_with fail
    refine (HN.out _).mono ?_
    rintro e w3 ⟨rfl, b3⟩
    obtain ⟨g1, g2, bb⟩ := two_boxes w w3 _ _ _ b3
    have B3 := Lib.hid bb
    have BF := Lib.hid (set3 B3.out (show w.heap.size ≤ w.heap.size + 1 by omega) (.string s) (.int .i64 ak) (.int .i64 e))
    clear bb b3
    have p0 := cell_of_row w3 _ 0 _ _ _ g1
    have p1 := cell_of_row w3 _ 1 _ _ _ g1
    have q0 := cell_of_row w3 _ 0 _ _ _ g2
    have q1 := cell_of_row w3 _ 1 _ _ _ g2
    have q2 := cell_of_row w3 _ 2 _ _ _ g2
    have z0 := frozen_of_row w3 (w.heap.size + 1) 0 _ _ g2
    have z1 := frozen_of_row w3 (w.heap.size + 1) 1 _ _ g2
    have z2 := frozen_of_row w3 (w.heap.size + 1) 2 _ _ g2
    go_wp2_with fail
    exact ret_rt rfl (w.heap.size + 1) rfl s ak e (heap3 g2 _ _ _) rfl ⟨rfl, BF.out⟩
  · have hb : (er != 0) = true := by simpa using he
    have hu : uintM s a er = (0, a, er) := by unfold uintM; rw [if_neg he]
    rw [hu]
    have b2 := b1.alloc b1.size (.cells #[.string s, .int .i64 a, .int .i64 er] 126)
    have B2 := Lib.hid b2
    clear b1 b2
    unfold rdv
    go_enter Tryz.func112, Tryz.ntmps112
    go_wp2_with fail
    have g2 := heap_alloc_new (w.alloc (.cells #[.string s, .int .i64 a, .int .i64 er] 126)) (.cells #[.string s, .int .i64 a, .int .i64 er] 126)
    simp only [World.size_alloc] at g2
    exact ret_rt rfl (w.heap.size + 1) rfl s a er g2 rfl ⟨rfl, B2.out⟩
set_option maxHeartbeats 1000000 in
set_option maxRecDepth 100000 in
theorem RInt_any (s : ByteArray) (a : Nat) (er : Int) (w : World) (hs : s.size ≤ 140737488351232) (ha : a ≤ s.size) :
    Calls Tryz.prog 81 #[rdv s a er] w (RdvPost s (.int .i64 (zig (uintM s a er).1)) (uintM s a er).2 w) := by
  have HN : Hid (∀ w, Calls Tryz.prog 112 #[rdv s a er] w (RdvPost s (.int .u64 (uintM s a er).1) (uintM s a er).2 w)) := fun w => RUint_any s a er w hs ha
  have hr : InU64 (uintM s a er).1 := by
    unfold uintM
    have := uintR_range s a
    split
    · split
      · exact this
      · exact ⟨Int.le_refl _, (by decide : (0 : Int) < 18446744073709551616)⟩
    · exact ⟨Int.le_refl _, (by decide : (0 : Int) < 18446744073709551616)⟩
  have hz := zig_unzz _ hr
  generalize zig (uintM s a er).1 = z at *
  generalize uintM s a er = x at *
  obtain ⟨n, p, e⟩ := x
  simp only at hr hz HN ⊢
  obtain ⟨m, rfl⟩ : ∃ m : Nat, n = m := ⟨n.toNat, by have := hr.1; omega⟩
  have hm2 := hr.2
  have hw : IntKind.u64.wrap ((m : Int) / 2) = ((m / 2 : Nat) : Int) := by rw [wrap_u64']; omega
  have hw2 : wrap64 ((m / 2 : Nat) : Int) = ((m / 2 : Nat) : Int) := by unfold wrap64; omega
  have hz2 : z = if m % 2 = 1 then -((m / 2 : Nat) : Int) - 1 else ((m / 2 : Nat) : Int) := by
    rw [hz]
    by_cases h : m % 2 = 1
    · rw [if_pos (by omega), if_pos h]; omega
    · rw [if_neg (by omega), if_neg h]; omega
  have hm3 : (m / 2 : Nat) < 9223372036854775808 := by omega
  have HM2 := Lib.hid hm2
  have HM3 := Lib.hid hm3
  have HZ := Lib.hid hz2
  clear hr hz hz2 hm2 hm3
  unfold RdvPost rdv at *
  go_enter Tryz.func81, Tryz.ntmps81
  go_wp2_with fail
  refine (HN.out _).mono ?_
  rintro e w3 ⟨rfl, b3⟩
  obtain ⟨g1, g2, bb⟩ := two_boxes w w3 _ _ _ b3
  have B3 := Lib.hid bb
  have b4 := bb.alloc bb.size (.cells #[.string s, .int .i64 p, .int .i64 e] 126)
  have g2' := Below.heap_alloc w3 (.cells #[.string s, .int .i64 p, .int .i64 e] 126) _ (lt_of_heap g2)
  rw [g2] at g2'
  have g3 := heap_alloc_new w3 (.cells #[.string s, .int .i64 p, .int .i64 e] 126)
  have B4 := Lib.hid b4
  have p0 := cell_of_row _ _ 0 _ _ _ g3
  have p1 := cell_of_row _ _ 1 _ _ _ g3
  have p2 := cell_of_row _ _ 2 _ _ _ g3
  have q0 := cell_of_row _ _ 0 _ _ _ g2'
  have q1 := cell_of_row _ _ 1 _ _ _ g2'
  have q2 := cell_of_row _ _ 2 _ _ _ g2'
  have z0 := frozen_of_row _ (w.heap.size + 1) 0 _ _ g2'
  have z1 := frozen_of_row _ (w.heap.size + 1) 1 _ _ g2'
  have z2 := frozen_of_row _ (w.heap.size + 1) 2 _ _ g2'
  have BF := Lib.hid (set3 b4 (show w.heap.size ≤ w.heap.size + 1 by omega) (.string s) (.int .i64 p) (.int .i64 e))
  have GF := Lib.hid (heap3 g2' (.string s) (.int .i64 p) (.int .i64 e))
  clear b3 bb b4 g1 g2 g2' g3
  by_cases h1 : m % 2 = 1
  · have h1' : (m : Int) % 2 = 1 := by omega
    have hz := HZ.out
    rw [if_pos h1] at hz
    have HZZ := Lib.hid hz
    clear hz
    go_wp2_with fail
    refine ret_rt rfl (w.heap.size + 1) rfl s p e GF.out rfl ⟨?_, BF.out⟩
    rw [HZZ.out]
    simp [rdv]
    have := HM2.out
    unfold wrap64; omega
  · have h1' : ((m : Int) % 2 == 1) = false := by rw [beq_eq_false_iff_ne]; omega
    have HO := Lib.hid h1
    clear h1
    have hz := HZ.out
    rw [if_neg HO.out] at hz
    have HZZ := Lib.hid hz
    clear hz
    go_wp2_with fail
    refine ret_rt rfl (w.heap.size + 1) rfl s p e GF.out rfl ⟨?_, BF.out⟩
    rw [HZZ.out]
    simp [rdv]
    have := HM2.out
    unfold wrap64; omega
end Go.Proofs.YtjflcpkmoamijaaGreatDoor
