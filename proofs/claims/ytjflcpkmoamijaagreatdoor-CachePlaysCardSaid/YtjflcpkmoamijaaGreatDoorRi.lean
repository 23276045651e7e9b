import Derived.Test.YtjflcpkmoamijaaGreatDoorRh
namespace Go.Proofs.YtjflcpkmoamijaaGreatDoor
open Go.RowKit
set_option linter.unusedVariables false
set_option linter.unusedSimpArgs false
set_option linter.unnecessarySimpa false

theorem ret_r1 {fn : Func} {R : Ending → World → Prop} {a : Act} {w : World} {c : Tmp} (hres : fn.results = #[.cell c 126]) (b : Nat) (hc : a.tmps.getD c undef = .pointer (some ⟨b, 0, none⟩)) (s : ByteArray) (p : Nat) (e : Int)
    (hg : w.heap[b]? = some (.cells #[.string s, .int .i64 p, .int .i64 e] 126 (0, 0))) (hd : a.defers = []) (hR : R (.returned (rdv s p e)) w) : bodyPost Tryz.prog fn R .ret a w := by
  have hl := run_loadVar_row (P := Tryz.prog) w b 126 126 _ _ _ hg Tryz.underlying126 rfl (by kernel_rfl)
  refine bodyPost_ret (v := rdv s p e) ?_ hd hR
  unfold results
  rw [hres]
  have hc' : a.tmps[c]?.getD undef = .pointer (some ⟨b, 0, none⟩) := by simpa using hc
  simp [hc', asAddr, hl, rdv]
theorem RRead_any (s : ByteArray) (w : World) : Calls Tryz.prog 82 #[.string s] w fun e w' => e = .returned (rdv s 0 0) ∧ Below w.heap.size w w' := by
  have b1 := (Below.refl w.heap.size w).alloc (Nat.le_refl _) (.cells #[.string s, .int .i64 0, .int .i64 0] 126)
  have g1 := heap_alloc_new w (.cells #[.string s, .int .i64 0, .int .i64 0] 126)
  have B1 := Lib.hid b1
  have G1 := Lib.hid g1
  clear b1 g1
  go_enter Tryz.func82, Tryz.ntmps82
  go_wp2_with fail
  exact ret_r1 rfl w.heap.size rfl s 0 0 G1.out rfl ⟨rfl, B1.out⟩
theorem RErr_any (s : ByteArray) (a : Nat) (er : Int) (w : World) : Calls Tryz.prog 84 #[rdv s a er] w fun e w' => e = .returned (.int .i64 er) ∧ Below w.heap.size w w' := by
  have B1 := Lib.hid ((Below.refl w.heap.size w).alloc (Nat.le_refl _) (.cells #[.string s, .int .i64 a, .int .i64 er] 126))
  unfold rdv
  go_enter Tryz.func84, Tryz.ntmps84
  go_wp2_with fail
  go_ret
  exact ⟨rfl, B1.out⟩
theorem RLeft_any (s : ByteArray) (a : Nat) (er : Int) (w : World) (hs : s.size ≤ 140737488351232) (ha : a ≤ s.size) : Calls Tryz.prog 114 #[rdv s a er] w fun e w' => e = .returned (.int .i64 ((s.size : Int) - a)) ∧ Below w.heap.size w w' := by
  have B1 := Lib.hid ((Below.refl w.heap.size w).alloc (Nat.le_refl _) (.cells #[.string s, .int .i64 a, .int .i64 er] 126))
  unfold rdv
  go_enter Tryz.func114, Tryz.ntmps114
  go_wp2_with fail
  go_ret
  exact ⟨rfl, B1.out⟩
set_option maxHeartbeats 1000000 in
theorem RDone_any (s : ByteArray) (a : Nat) (er : Int) (w : World) (hs : s.size ≤ 140737488351232) (ha : a ≤ s.size) : Calls Tryz.prog 86 #[rdv s a er] w fun e w' => e = .returned (.int .i64 (doneM s a er)) ∧ Below w.heap.size w w' := by
  have B1 := Lib.hid ((Below.refl w.heap.size w).alloc (Nat.le_refl _) (.cells #[.string s, .int .i64 a, .int .i64 er] 126))
  have HL : Hid (∀ w, Calls Tryz.prog 114 #[rdv s a er] w fun e w' => e = .returned (.int .i64 ((s.size : Int) - a)) ∧ Below w.heap.size w w') := fun w => RLeft_any s a er w hs ha
  unfold rdv at *
  by_cases he : er = 0
  · subst he
    by_cases hl : a < s.size
    · have hM : Hid (doneM s a 0 = 5) := by show _ = _; unfold doneM; rw [if_pos rfl, if_pos hl]
      have hp : 0 < (s.size : Int) - a := by omega
      go_enter Tryz.func86, Tryz.ntmps86
      go_wp2_with fail
      refine (HL.out _).mono ?_
      rintro e w2 ⟨rfl, b2⟩
      have b3 := (one_box w w2 _ _ b2).2
      have B3 := Lib.hid b3
      clear b2 b3
      go_wp2_with fail
      go_ret
      rw [hM.out]
      exact ⟨rfl, B3.out⟩
    · have hM : Hid (doneM s a 0 = 0) := by show _ = _; unfold doneM; rw [if_pos rfl, if_neg hl]
      have hp : ¬ 0 < (s.size : Int) - a := by omega
      go_enter Tryz.func86, Tryz.ntmps86
      go_wp2_with fail
      refine (HL.out _).mono ?_
      rintro e w2 ⟨rfl, b2⟩
      have b3 := one_box w w2 _ _ b2
      have k2 := cell_of_row w2 _ 2 _ _ _ b3.1
      have B3 := Lib.hid b3.2
      clear b2 b3
      go_wp2_with fail
      go_ret
      rw [hM.out]
      exact ⟨rfl, B3.out⟩
  · have hM : Hid (doneM s a er = er) := by show _ = _; unfold doneM; rw [if_neg he]
    have hb : (er == 0) = false := by simpa using he
    go_enter Tryz.func86, Tryz.ntmps86
    go_wp2_with fail
    go_ret
    rw [hM.out]
    exact ⟨rfl, B1.out⟩
theorem countM_nxt (s : ByteArray) (a : Nat) (most : Int) : countM s a 0 most = if (nxt s a).2.2 ≠ 0 then (0, a, (nxt s a).2.2) else if most < (nxt s a).1 then (0, a, 5) else (wrap64 (nxt s a).1, a + (nxt s a).2.1, 0) := by
  have h3 : a ≤ (uintR s a).2.2 := (uintGo_ge s 10 0 a 0).1
  unfold countM countR nxt
  rw [if_pos rfl]
  by_cases h : (uintR s a).2.1 = 0
  · simp only [h, ne_eq, not_true_eq_false, if_false, if_true, true_and]
    by_cases hm : most < (uintR s a).1
    · simp [hm]
    · simp only [hm, if_false, if_true]
      congr 2
      omega
  · simp only [h, ne_eq, not_false_eq_true, if_true, false_and, if_false]
set_option maxHeartbeats 1000000 in
set_option maxRecDepth 100000 in
theorem RCount_any (s : ByteArray) (a : Nat) (er : Int) (most : Nat) (w : World) (hs : s.size ≤ 140737488351232) (ha : a ≤ s.size) (hm : most ≤ 140737488351232) :
    Calls Tryz.prog 83 #[rdv s a er, .int .i64 most] w (RdvPost s (.int .i64 (countM s a er most).1) (countM s a er most).2 w) := by
  have b1 := (Below.refl w.heap.size w).alloc (Nat.le_refl _) (.cells #[.string s, .int .i64 a, .int .i64 er] 126)
  by_cases he : er = 0
  · subst he
    have hr := nxt_range s a ha
    have HN : Hid (∀ w, Calls Tryz.prog 113 #[rdv s a 0] w fun e w' => e = .returned (.tuple #[.int .u64 (nxt s a).1, .int .i64 (nxt s a).2.1, .int .i64 (nxt s a).2.2]) ∧ Below w.heap.size w w') := fun w => next_any s a 0 w hs ha
    have hcm := countM_nxt s a most
    generalize nxt s a = x at *
    obtain ⟨n, k, e⟩ := x
    obtain ⟨m, rfl⟩ : ∃ m : Nat, n = m := ⟨n.toNat, by have := hr.1; omega⟩
    have hr2 := Lib.hid hr.2.1
    have hr3 := hr.2.2
    clear hr
    simp only at hr3 HN hcm
    have HCM := Lib.hid hcm
    have hmx : max (most : Int) 0 = most := by omega
    have hwu : IntKind.u64.wrap (most : Int) = most := by rw [wrap_u64']; omega
    obtain ⟨ak, hak⟩ : ∃ ak : Nat, (a : Int) + k = ak := ⟨a + k, by simp⟩
    have hak2 : Hid (a + k = ak) := by show _ = _; omega
    have hakl : ak ≤ 140737488351232 := by omega
    clear b1 hr3 hcm
    unfold rdv at HN ⊢
    go_enter Tryz.func83, Tryz.ntmps83
    go_wp2_with fail
    refine (HN.out _).mono ?_
    rintro e0 w3 ⟨rfl, b3⟩
    obtain ⟨g1, g2, bb⟩ := two_boxes w w3 _ _ _ b3
    have p0 := cell_of_row w3 _ 0 _ _ _ g1
    have p1 := cell_of_row w3 _ 1 _ _ _ g1
    have q0 := cell_of_row w3 _ 0 _ _ _ g2
    have q1 := cell_of_row w3 _ 1 _ _ _ g2
    have q2 := cell_of_row w3 _ 2 _ _ _ g2
    have z0 := frozen_of_row w3 (w.heap.size + 1) 0 _ _ g2
    have z1 := frozen_of_row w3 (w.heap.size + 1) 1 _ _ g2
    have z2 := frozen_of_row w3 (w.heap.size + 1) 2 _ _ g2
    have BF := Lib.hid (fun (x : Nat) (y : Int) => set3 bb (show w.heap.size ≤ w.heap.size + 1 by omega) (.string s) (.int .i64 x) (.int .i64 y))
    have GF := Lib.hid (fun (x : Nat) (y : Int) => heap3 g2 (.string s) (.int .i64 x) (.int .i64 y))
    clear b3 bb g1 g2
    by_cases he : e = 0
    · subst he
      by_cases hmn : most < m
      · have hmn' : (most : Int) < (m : Int) := by omega
        go_wp2_with fail
        refine ret_rt rfl (w.heap.size + 1) rfl s a 5 (GF.out a 5) rfl ⟨?_, BF.out a 5⟩
        rw [HCM.out, if_neg (by simp), if_pos hmn']
        rfl
      · have hmn' : ¬ (most : Int) < (m : Int) := by omega
        have hwm : wrap64 (m : Int) = m := by unfold wrap64; omega
        go_wp2_with fail
        refine ret_rt rfl (w.heap.size + 1) rfl s ak 0 (GF.out ak 0) rfl ⟨?_, BF.out ak 0⟩
        rw [HCM.out, if_neg (by simp), if_neg (show ¬ (most : Int) < (m : Int) by omega), hwm, hak2.out]
        simp [rdv, hwm]
    · have hb : (e == 0) = false := by simpa using he
      have hb2 : (e != 0) = true := by simpa using he
      have HE := Lib.hid he
      clear he
      go_wp2_with fail
      refine ret_rt rfl (w.heap.size + 1) rfl s a e (GF.out a e) rfl ⟨?_, BF.out a e⟩
      rw [HCM.out, if_pos HE.out]
      rfl
  · have hb : (er != 0) = true := by simpa using he
    have hu : countM s a er most = (0, a, er) := by unfold countM; rw [if_neg he]
    rw [hu]
    have b2 := b1.alloc b1.size (.cells #[.string s, .int .i64 a, .int .i64 er] 126)
    have B2 := Lib.hid b2
    clear b1 b2
    unfold rdv
    go_enter Tryz.func83, Tryz.ntmps83
    go_wp2_with fail
    have g2 := heap_alloc_new (w.alloc (.cells #[.string s, .int .i64 a, .int .i64 er] 126)) (.cells #[.string s, .int .i64 a, .int .i64 er] 126)
    simp only [World.size_alloc] at g2
    exact ret_rt rfl (w.heap.size + 1) rfl s a er g2 rfl ⟨rfl, B2.out⟩
theorem textM_count (s : ByteArray) (a : Nat) (er most : Int) : textM s a er most = if (countM s a er most).2.2 ≠ 0 then (⟨#[]⟩, (countM s a er most).2.1, (countM s a er most).2.2) else
    if (s.size : Int) - (countM s a er most).2.1 < (countM s a er most).1 then (⟨#[]⟩, a, 3) else
    (s.extract (countM s a er most).2.1 ((countM s a er most).2.1 + (countM s a er most).1.toNat), (countM s a er most).2.1 + (countM s a er most).1.toNat, 0) := by
  unfold textM countM textR
  by_cases he : er = 0
  · subst he
    simp only [if_true]
    by_cases hc : (countR s a most).2.1 = 0
    · simp only [hc, if_true, ne_eq, not_true_eq_false, if_false]
      by_cases hl : (s.size : Int) - (countR s a most).2.2 < (countR s a most).1
      · simp [hl]
      · simp [hl]
    · simp [hc]
  · simp [he]
set_option maxHeartbeats 1000000 in
set_option maxRecDepth 100000 in
theorem RText_any (s : ByteArray) (a : Nat) (er : Int) (most : Nat) (w : World) (hs : s.size ≤ 140737488351232) (ha : a ≤ s.size) (hm : most ≤ 140737488351232) :
    Calls Tryz.prog 85 #[rdv s a er, .int .i64 most] w (RdvPost s (.string (textM s a er most).1) (textM s a er most).2 w) := by
  have HN : Hid (∀ w, Calls Tryz.prog 83 #[rdv s a er, .int .i64 most] w (RdvPost s (.int .i64 (countM s a er most).1) (countM s a er most).2 w)) := fun w => RCount_any s a er most w hs ha hm
  have hr := countM_range (s := s) (a := a) (er := er) (most := most) (by omega) (by omega)
  have hle := countM_le (er := er) (most := most) ha
  have htm := textM_count s a er most
  generalize textM s a er most = tm at *
  generalize countM s a er most = x at *
  obtain ⟨n, p, e⟩ := x
  obtain ⟨m, rfl⟩ : ∃ m : Nat, n = m := ⟨n.toNat, by have := hr.1; omega⟩
  have hr2 := hr.2
  simp only at hr2 hle htm HN
  have HTM := Lib.hid htm
  clear hr htm
  unfold RdvPost rdv at *
  go_enter Tryz.func85, Tryz.ntmps85
  go_wp2_with fail
  refine (HN.out _).mono ?_
  rintro e0 w3 ⟨rfl, b3⟩
  obtain ⟨g1, g2, bb⟩ := two_boxes w w3 _ _ _ b3
  have b4 := bb.alloc bb.size (.cells #[.string s, .int .i64 p, .int .i64 e] 126)
  have g1' := Below.heap_alloc w3 (.cells #[.string s, .int .i64 p, .int .i64 e] 126) _ (lt_of_heap g1)
  rw [g1] at g1'
  have g2' := Below.heap_alloc w3 (.cells #[.string s, .int .i64 p, .int .i64 e] 126) _ (lt_of_heap g2)
  rw [g2] at g2'
  have g3 := heap_alloc_new w3 (.cells #[.string s, .int .i64 p, .int .i64 e] 126)
  have hne3 : w3.heap.size ≠ w.heap.size + 1 := fun q => by have := lt_of_heap g2; omega
  have hne1 : w.heap.size ≠ w.heap.size + 1 := by omega
  have p0 := cell_of_row _ _ 0 _ _ _ g3
  have p1 := cell_of_row _ _ 1 _ _ _ g3
  have p2 := cell_of_row _ _ 2 _ _ _ g3
  have r0 := cell_of_row _ _ 0 _ _ _ g1'
  have r1 := cell_of_row _ _ 1 _ _ _ g1'
  have q0 := cell_of_row _ _ 0 _ _ _ g2'
  have q1 := cell_of_row _ _ 1 _ _ _ g2'
  have q2 := cell_of_row _ _ 2 _ _ _ g2'
  have z0 := frozen_of_row _ (w.heap.size + 1) 0 _ _ g2'
  have z1 := frozen_of_row _ (w.heap.size + 1) 1 _ _ g2'
  have z2 := frozen_of_row _ (w.heap.size + 1) 2 _ _ g2'
  have BF := Lib.hid (fun (x : Nat) (y : Int) => set3 b4 (show w.heap.size ≤ w.heap.size + 1 by omega) (.string s) (.int .i64 x) (.int .i64 y))
  have GF := Lib.hid (fun (x : Nat) (y : Int) => heap3 g2' (.string s) (.int .i64 x) (.int .i64 y))
  clear b3 bb b4 g1 g2 g1' g2' g3
  by_cases he : e = 0
  · subst he
    by_cases hl : (s.size : Int) - p < m
    · go_wp2_with fail
      refine ret_rt rfl (w.heap.size + 1) rfl s a 3 (GF.out a 3) rfl ⟨?_, BF.out a 3⟩
      rw [HTM.out, if_neg (by simp), if_pos hl]
      rfl
    · have hpm : p + m ≤ s.size := by omega
      obtain ⟨pm, hpm2⟩ : ∃ pm : Nat, (p : Int) + m = pm := ⟨p + m, by simp⟩
      have hpm3 : pm ≤ s.size := by omega
      have hppm : p ≤ pm := by omega
      have HPM : Hid (p + m = pm) := by show _ = _; omega
      have HL := Lib.hid hl
      clear hl hpm
      go_wp2_with fail
      go_region
      go_wp2_with fail
      refine ret_rt rfl (w.heap.size + 1) rfl s pm 0 (GF.out pm 0) rfl ⟨?_, (BF.out pm 0).drew⟩
      rw [HTM.out, if_neg (by simp), if_neg (by have := HL.out; omega), Int.toNat_natCast, HPM.out]
      rfl
  · have hb2 : (e != 0) = true := by simpa using he
    have HE := Lib.hid he
    clear he
    go_wp2_with fail
    refine ret_rt rfl (w.heap.size + 1) rfl s p e (GF.out p e) rfl ⟨?_, BF.out p e⟩
    rw [HTM.out, if_pos HE.out]
    rfl
end Go.Proofs.YtjflcpkmoamijaaGreatDoor
