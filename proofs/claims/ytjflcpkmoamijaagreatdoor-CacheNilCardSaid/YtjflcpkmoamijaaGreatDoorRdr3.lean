import Derived.Test.YtjflcpkmoamijaaGreatDoorRdr2
namespace Go.Proofs.YtjflcpkmoamijaaGreatDoor
open Go.RowKit
set_option linter.unusedVariables false
set_option linter.unusedSimpArgs false
set_option linter.unnecessarySimpa false

/-- Text's closure: the string, the error, the place. -/
def textR (s : ByteArray) (a : Nat) (most : Int) : ByteArray × Int × Nat :=
  if (countR s a most).2.1 = 0 then
    (if ((s.size : Int) - (countR s a most).2.2) < (countR s a most).1 then (⟨#[]⟩, 3, (countR s a most).2.2)
     else (s.extract (countR s a most).2.2 ((countR s a most).2.2 + (countR s a most).1.toNat), 0, (countR s a most).2.2 + (countR s a most).1.toNat))
  else (⟨#[]⟩, (countR s a most).2.1, (countR s a most).2.2)

theorem countR_le {s : ByteArray} {a : Nat} {most : Int} (h : a ≤ s.size) : (countR s a most).2.2 ≤ s.size := uintR_le h

theorem wrap_u64_range (n : Int) : 0 ≤ IntKind.u64.wrap n ∧ IntKind.u64.wrap n < 18446744073709551616 := by rw [IntKind.wrap_u64]; omega
theorem rdStep_range (m : Int) (c k : Nat) : 0 ≤ rdStep m c k ∧ rdStep m c k < 18446744073709551616 := by
  unfold rdStep bits; exact wrap_u64_range _
theorem uintGo_range (s : ByteArray) : ∀ f k a m, 0 ≤ m → m < 18446744073709551616 → 0 ≤ (uintGo s f k a m).1 ∧ (uintGo s f k a m).1 < 18446744073709551616 := by
  intro f
  induction f with
  | zero => intro k a m h h'; simp [uintGo]
  | succ f ih =>
    intro k a m h h'
    rcases Nat.lt_or_ge a s.size with hl | hl
    · by_cases hc : 128 ≤ byteAt s a
      · rw [uintGo_on hl hc]; exact ih _ _ _ (rdStep_range _ _ _).1 (rdStep_range _ _ _).2
      · by_cases hb : (0 < k ∧ byteAt s a = 0) ∨ (k = 9 ∧ 1 < byteAt s a)
        · rw [uintGo_bad hl (by omega) hb]; simp
        · rw [uintGo_ok hl (by omega) hb]; exact rdStep_range _ _ _
    · rw [uintGo_end hl]; simp
theorem uintR_range (s : ByteArray) (a : Nat) : 0 ≤ (uintR s a).1 ∧ (uintR s a).1 < 18446744073709551616 := uintGo_range s _ _ _ _ (by omega) (by omega)
theorem countR_range {s : ByteArray} {a : Nat} {most : Int} (hm : most ≤ 140737488351232) (h : (countR s a most).2.1 = 0) : 0 ≤ (countR s a most).1 ∧ (countR s a most).1 ≤ most ∧ (countR s a most).1 = (uintR s a).1 := by
  have hr := uintR_range s a
  unfold countR at h ⊢
  simp only at h ⊢
  split at h
  · omega
  · rename_i hn
    have hle : (uintR s a).1 ≤ most := by
      rcases Int.lt_or_le most (uintR s a).1 with h1 | h1
      · exact absurd ⟨h, h1⟩ hn
      · exact h1
    have hw : wrap64 (uintR s a).1 = (uintR s a).1 := by unfold wrap64; omega
    rw [hw]; exact ⟨hr.1, hle, rfl⟩

set_option maxHeartbeats 400000 in
set_option maxRecDepth 100000 in
theorem text_closure (g : Nat) (s : ByteArray) (a0 br bm bn : Nat) (most : Int) (w : World) (hs : s.size ≤ 140737488351232) (ha : a0 ≤ s.size) (hm0 : 0 ≤ most) (hm1 : most ≤ 140737488351232) (hr : IsRd w g s a0 0)
    (hb : Cell1 w br 122 (.pointer (some ⟨g, 0, none⟩))) (hm : Cell1 w bm 3 (.int .i64 most)) (hn : Cell1 w bn 9 (.string ⟨#[]⟩)) (n1 : br ≠ g) (n2 : bn ≠ g) (n3 : br ≠ bn) :
    ReadsBy 110 #[.pointer (some ⟨br, 0, none⟩), .pointer (some ⟨bm, 0, none⟩), .pointer (some ⟨bn, 0, none⟩)] g s bn 9 (textR s a0 most).2.1 (textR s a0 most).2.2 (.string (textR s a0 most).1) w := by
  intro w1 hw1
  have hf1 : Fr w w1 Nowhere := Fr.of_below hw1 _
  have hr1 := hr.fr hf1 (fun h => h)
  have hb1 := hb.fr hf1 (fun h => h)
  have hm1' := hm.fr hf1 (fun h => h)
  have hn1 := hn.fr hf1 (fun h => h)
  clear hr hb hn hf1 hw1
  have c1 := hb1.c
  have c2 := hm1'.c
  have HB := Lib.hid hb1
  have HR := Lib.hid hr1
  have HN := Lib.hid hn1
  clear hr1 hb1 hn1
  go_enter Tryz.func110, Tryz.ntmps110
  go_wp2_with fail
  refine (count_any g s a0 most 0 _ hs ha hm0 hm1 HR.out).mono ?_
  rintro e w2 ⟨rfl, hr2, hf2⟩
  have hn2 := HN.out.fr hf2 n2
  have hb2 := HB.out.fr hf2 n1
  have c3 := hn2.c
  have c4 := hn2.f
  have c5 := hb2.c
  have c6 := hr2.c0
  have c7 := hr2.c1
  have c8 := hr2.f 1
  have hle := countR_le (most := most) ha
  have HN2 := Lib.hid hn2
  have HR2 := Lib.hid hr2
  have HF2 := Lib.hid hf2
  clear hn2 hr2 hf2 hb2
  obtain ⟨n, hn⟩ : ∃ n, n = (countR s a0 most).1 := ⟨_, rfl⟩
  obtain ⟨e1, he⟩ : ∃ n, n = (countR s a0 most).2.1 := ⟨_, rfl⟩
  obtain ⟨a1, ha1⟩ : ∃ n, n = (countR s a0 most).2.2 := ⟨_, rfl⟩
  have HT : Hid (textR s a0 most = if e1 = 0 then (if ((s.size : Int) - a1) < n then (⟨#[]⟩, 3, a1) else (s.extract a1 (a1 + n.toNat), 0, a1 + n.toNat)) else (⟨#[]⟩, e1, a1)) := by
    unfold textR; rw [← hn, ← he, ← ha1]; rfl
  have h0 : e1 = 0 → 0 ≤ n ∧ n ≤ most := by intro h; rw [he] at h; have := countR_range hm1 h; rw [hn]; exact ⟨this.1, this.2.1⟩
  rw [← ha1] at c7 hle HR2
  rw [← hn, ← he]
  clear hn he ha1
  by_cases h0' : e1 = 0
  · obtain ⟨hn0, hnm⟩ := h0 h0'
    subst h0'
    clear h0
    by_cases hgt : ((s.size : Int) - a1) < n
    · have h1 : Hid (textR s a0 most = (⟨#[]⟩, 3, a1)) := by have := HT.out; rw [if_pos rfl, if_pos hgt] at this; exact this
      go_wp2
      go_quiet (fail)
      go_wp2
      go_ret
      rw [h1.out]
      exact ⟨rfl, HR2.out.drewN _, HN2.out, ((HF2.out.drewN _).mono (fun i _ h => .inl h))⟩
    · have hbd : a1 + n.toNat ≤ s.size := by omega
      have h1 : Hid (textR s a0 most = (s.extract a1 (a1 + n.toNat), 0, a1 + n.toNat)) := by have := HT.out; rw [if_pos rfl, if_neg hgt] at this; exact this
      obtain ⟨k, rfl⟩ := Int.eq_ofNat_of_zero_le hn0
      go_wp2
      go_quiet (fail)
      go_wp2
      refine wp_region_still_tail 15 (by kernel_rfl) (by kernel_rfl) ?_
      simp only [List.take_succ_cons, List.take_zero, List.drop_succ_cons, List.drop_zero]
      change wpStill _ _ (w2.drewN nq).drew _ _ _
      have b1 : (a1 : Int) + (k : Int) ≤ (s.size : Int) := by omega
      have b2 : 0 ≤ (a1 : Int) + (k : Int) := by omega
      have b3 : (a1 : Int) ≤ (a1 : Int) + (k : Int) := by omega
      have hw : IntKind.i64.wrap ((a1 : Int) + (k : Int)) = (a1 : Int) + (k : Int) := IntWalk.i64_in _ (by omega)
      repeat still_step
      refine wpStill_nil ?_
      change wpList _ _ _ _ _ (w2.drewN nq).drew
      have HR3 : Hid (IsRd (w2.drewN nq).drew g s a1 0) := HR2.out
      have HN3 : Hid (Cell1 (w2.drewN nq).drew bn 9 (.string ⟨#[]⟩)) := HN2.out
      have HF3 := Lib.hid (HF2.out.drewN nq).drew
      have HB3 : (w2.drewN nq).drew.cell? ⟨br, 0, none⟩ = some (.pointer (some ⟨g, 0, none⟩)) := c5
      clear c3 c4 c5 c6 c7 c8 HR2 HN2 HF2 b1 b2 b3 hw
      generalize (w2.drewN nq).drew = w3 at *
      have c3 := HN3.out.c
      have c4 := HN3.out.f
      have c7 := HR3.out.c1
      have c8 := HR3.out.f 1
      go_wp2
      go_ret
      rw [h1.out]
      have e1 : ((a1 : Int) + (k : Int)).toNat = a1 + ((k : Nat) : Int).toNat := by omega
      have e2 : (a1 : Int) + (k : Int) = ((a1 + ((k : Nat) : Int).toNat : Nat) : Int) := by omega
      rw [e1, e2]
      exact ⟨rfl, (HR3.out.other _ n2 _).set1 _, (HN3.out.set _).other _ (fun h => n2 h.symm) _, ((HF3.out.mono (fun i _ h => .inl h)).setCell _ _ (fun _ => .inr rfl)).setCell _ _ (fun _ => .inl rfl)⟩
  · have hb : (e1 != 0) = true := by simpa using h0'
    go_wp2
    go_ret
    have h1 : textR s a0 most = (⟨#[]⟩, e1, a1) := by rw [HT.out, if_neg h0']
    rw [h1]
    exact ⟨rfl, HR2.out, HN2.out, HF2.out.mono (fun i _ h => .inl h)⟩

/-- (*wire.Reader).Text. -/
def textM (s : ByteArray) (a : Nat) (err most : Int) : ByteArray × Nat × Int :=
  if err = 0 then (if (textR s a most).2.1 = 0 then ((textR s a most).1, (textR s a most).2.2, 0) else (⟨#[]⟩, a, (textR s a most).2.1)) else (⟨#[]⟩, a, err)

set_option maxHeartbeats 400000 in
theorem Text_any (g : Nat) (s : ByteArray) (a : Nat) (err most : Int) (w : World) (hs : s.size ≤ 140737488351232) (ha : a ≤ s.size) (hm0 : 0 ≤ most) (hm1 : most ≤ 140737488351232) (hr : IsRd w g s a err) :
    Calls Tryz.prog 77 #[.pointer (some ⟨g, 0, none⟩), .int .i64 most] w (RdPost g s (textM s a err most).2 w (.string (textM s a err most).1)) := by
  have hmf : ∀ (fn : Fn) (first cap : Array Value) (w : World), (Instr.makeFunc fn first cap).run Tryz.prog w = .ok (.func fn first cap) w := fun _ _ _ _ => rfl
  have lg := hr.lt
  have HR := Lib.hid hr
  clear hr
  by_cases he : err = 0
  · subst he
    go_enter Tryz.func77, Tryz.ntmps77
    go_wp2_with fail
    obtain ⟨p0, p1, p2, pf⟩ := w3of_facts w g most (.string ⟨#[]⟩) 9
    have hr2 := HR.out.fr pf (fun h => h)
    have P2 := Lib.hid p2
    have PF := Lib.hid pf
    have HR2 := Lib.hid hr2
    have hC := Lib.hid (text_closure g s a w.heap.size (w.heap.size + 1) (w.heap.size + 1 + 1) most _ hs ha hm0 hm1 hr2 p0 p1 p2 (by omega) (by omega) (by omega))
    clear p0 p1 p2 pf hr2
    refine (try_any _ _ g s (w.heap.size + 1 + 1) 9 a _ _ (.string ⟨#[]⟩) _ _ (callF Tryz.func110 rfl (by decide)) HR2.out P2.out (by omega) hC.out).mono ?_
    rintro e w3 ⟨rfl, hr3, hh3, hf3⟩
    have c1 := hh3.c
    have hF : Fr w w3 (· = g) := (PF.out.mono (fun _ _ h => h.elim)).trans hf3 (by intro i hi h; rcases h with h | h; exact h; omega)
    have HR3 := Lib.hid hr3
    have HF := Lib.hid hF
    clear hr3 hh3 hf3 hF
    by_cases h0 : (textR s a most).2.1 = 0
    · have hM : Hid (textM s a 0 most = ((textR s a most).1, (textR s a most).2.2, 0)) := by unfold textM; rw [if_pos rfl, if_pos h0]; rfl
      rw [if_pos h0, h0] at HR3
      have hd : decide ((textR s a most).2.1 = 0) = true := by simpa using h0
      clear h0
      go_wp2
      go_ret
      rw [hM.out]
      exact ⟨rfl, HR3.out, HF.out⟩
    · have hM : Hid (textM s a 0 most = (⟨#[]⟩, a, (textR s a most).2.1)) := by unfold textM; rw [if_pos rfl, if_neg h0]; rfl
      rw [if_neg h0] at HR3
      have hd : decide ((textR s a most).2.1 = 0) = false := by simpa using h0
      clear h0
      go_wp2
      go_ret
      rw [hM.out]
      exact ⟨rfl, HR3.out, HF.out⟩
  · have hM : Hid (textM s a err most = (⟨#[]⟩, a, err)) := by unfold textM; rw [if_neg he]; rfl
    go_enter Tryz.func77, Tryz.ntmps77
    go_wp2_with fail
    obtain ⟨_, _, _, pf⟩ := w3of_facts w g most (.string ⟨#[]⟩) 9
    refine (try_no _ _ g s a err _ (HR.out.fr pf (fun h => h)) he).mono ?_
    rintro e w3 ⟨rfl, hb3⟩
    have hF : Fr w w3 (· = g) := (pf.mono (fun _ _ h => h.elim)).tr (Fr.of_below hb3 _)
    have hr3 := (HR.out.fr pf (fun h => h)).fr (Fr.of_below hb3 Nowhere) (fun h => h)
    have HF := Lib.hid hF
    have HR3 := Lib.hid hr3
    clear hb3 hF hr3 pf
    go_wp2
    go_ret
    rw [hM.out]
    exact ⟨rfl, HR3.out, HF.out⟩

set_option maxHeartbeats 400000 in
theorem Err_any (g : Nat) (s : ByteArray) (a : Nat) (err : Int) (w : World) (hr : IsRd w g s a err) :
    Calls Tryz.prog 78 #[.pointer (some ⟨g, 0, none⟩)] w fun e w' => e = .returned (.int .i64 err) ∧ w' = w := by
  have c2 := hr.c2
  go_enter Tryz.func78, Tryz.ntmps78
  go_wp2
  go_ret
  exact ⟨rfl, rfl⟩
set_option maxHeartbeats 400000 in
theorem Left_any (g : Nat) (s : ByteArray) (a : Nat) (err : Int) (w : World) (hs : s.size ≤ 140737488351232) (ha : a ≤ s.size) (hr : IsRd w g s a err) :
    Calls Tryz.prog 105 #[.pointer (some ⟨g, 0, none⟩)] w fun e w' => e = .returned (.int .i64 ((s.size : Int) - a)) ∧ ∃ n, w' = w.drewN n := by
  have c0 := hr.c0
  have c1 := hr.c1
  go_enter Tryz.func105, Tryz.ntmps105
  go_wp2
  go_quiet (fail)
  go_wp2
  go_ret
  exact ⟨rfl, _, rfl⟩
/-- (*wire.Reader).Done. -/
def doneM (s : ByteArray) (a : Nat) (err : Int) : Int := if err = 0 then (if a < s.size then 5 else 0) else err
set_option maxHeartbeats 400000 in
theorem Done_any (g : Nat) (s : ByteArray) (a : Nat) (err : Int) (w : World) (hs : s.size ≤ 140737488351232) (ha : a ≤ s.size) (hr : IsRd w g s a err) :
    Calls Tryz.prog 79 #[.pointer (some ⟨g, 0, none⟩)] w fun e w' => e = .returned (.int .i64 (doneM s a err)) ∧ ∃ n, w' = w.drewN n := by
  have HR := Lib.hid hr
  clear hr
  by_cases he : err = 0
  · subst he
    by_cases hl : a < s.size
    · have hM : Hid (doneM s a 0 = 5) := by unfold doneM; rw [if_pos rfl, if_pos hl]; rfl
      have hp : 0 < (s.size : Int) - a := by omega
      go_enter Tryz.func79, Tryz.ntmps79
      go_wp2_with (first | (go_at_call 78; refine (Err_any g s a 0 _ HR.out).mono ?_; rintro e w2 ⟨rfl, rfl⟩) | (go_at_call 105; refine (Left_any g s a 0 _ hs ha HR.out).mono ?_; rintro e w2 ⟨rfl, n, rfl⟩))
      go_ret
      rw [hM.out]
      exact ⟨rfl, _, rfl⟩
    · have hM : Hid (doneM s a 0 = 0) := by unfold doneM; rw [if_pos rfl, if_neg hl]; rfl
      have hp : ¬ 0 < (s.size : Int) - a := by omega
      go_enter Tryz.func79, Tryz.ntmps79
      go_wp2_with (first | (go_at_call 78; refine (Err_any g s a 0 _ HR.out).mono ?_; rintro e w2 ⟨rfl, rfl⟩) | (go_at_call 105; refine (Left_any g s a 0 _ hs ha HR.out).mono ?_; rintro e w2 ⟨rfl, n, rfl⟩))
      go_ret
      rw [hM.out]
      exact ⟨rfl, _, rfl⟩
  · have hM : Hid (doneM s a err = err) := by unfold doneM; rw [if_neg he]; rfl
    have hb : (err != 0) = true := by simpa using he
    go_enter Tryz.func79, Tryz.ntmps79
    go_wp2_with (first | (go_at_call 78; refine (Err_any g s a err _ HR.out).mono ?_; rintro e w2 ⟨rfl, rfl⟩))
    go_ret
    rw [hM.out]
    exact ⟨rfl, 0, rfl⟩
/-- The number that a varint says in zigzag. -/
def zig (n : Int) : Int := bits .xor .i64 (wrap64 (n / 2)) (wrap64 (-wrap64 (bits .and .u64 n 1)))
set_option maxHeartbeats 400000 in
theorem Int_any (g : Nat) (s : ByteArray) (a : Nat) (err : Int) (w : World) (hs : s.size ≤ 140737488351232) (ha : a ≤ s.size) (hr : IsRd w g s a err) :
    Calls Tryz.prog 75 #[.pointer (some ⟨g, 0, none⟩)] w (RdPost g s (uintM s a err).2 w (.int .i64 (zig (uintM s a err).1))) := by
  go_enter Tryz.func75, Tryz.ntmps75
  go_wp2_with fail
  refine (Uint_any g s a err _ hs ha hr).mono ?_
  rintro e w2 ⟨rfl, hr2, hf2⟩
  have HR := Lib.hid hr2
  have HF := Lib.hid hf2
  clear hr hr2 hf2
  go_wp2
  go_ret
  exact ⟨rfl, HR.out, HF.out⟩

set_option maxHeartbeats 400000 in
theorem Read_any (s : ByteArray) (w : World) :
    Calls Tryz.prog 74 #[.string s] w fun e w' => e = .returned (.pointer (some ⟨w.heap.size, 0, none⟩)) ∧ IsRd w' w.heap.size s 0 0 ∧ Below w.heap.size w w' := by
  go_enter Tryz.func74, Tryz.ntmps74
  go_wp2
  go_ret
  refine ⟨rfl, ?_, (Below.refl _ _).alloc (Nat.le_refl _) _⟩
  exact heap_alloc_new w _
end Go.Proofs.YtjflcpkmoamijaaGreatDoor
