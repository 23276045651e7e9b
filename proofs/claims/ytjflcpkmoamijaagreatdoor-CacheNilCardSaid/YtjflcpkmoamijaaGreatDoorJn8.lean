import Derived.Test.YtjflcpkmoamijaaGreatDoorJn7
namespace Go.Proofs.YtjflcpkmoamijaaGreatDoor
open Go.RowKit
set_option linter.unusedVariables false
set_option linter.unusedSimpArgs false
set_option linter.unnecessarySimpa false

/-- A journal, as an operation finds and leaves it: the device, the epoch, the blocks used, the records. -/
structure Jn where
  D : Dev
  ep : Nat
  u : Nat
  l : List ByteArray
def appW (D : Dev) (ep u : Nat) (s : ByteArray) : List (Nat × ByteArray) :=
  bodyW (fst0 D ep + u) s ++ ((if u + 1 + cnt s.size < hlf D then [(fst0 D ep + u + 1 + cnt s.size, (⟨#[]⟩ : ByteArray))] else []) ++ [(fst0 D ep + u, headS s.size)])
def appendP (J : Jn) (s : ByteArray) : Jn × Bool :=
  if hlf J.D < J.u + 1 + cnt s.size then (J, false) else
  if (wrs J.D (appW J.D J.ep J.u s)).2 then ({ J with D := (wrs J.D (appW J.D J.ep J.u s)).1, u := J.u + 1 + cnt s.size, l := J.l ++ [s] }, true)
  else ({ J with D := (wrs J.D (appW J.D J.ep J.u s)).1 }, false)
def JPost (r : DRef) (jb B : Nat) (vr : Value) (x : Jn × Bool) (w : World) (e : Ending) (w' : World) : Prop :=
  e = .returned (.int .i64 (okE x.2)) ∧ ∃ r' vr', DevIs w' r' x.1.D ∧ JIs w' B jb r.b vr' x.1.ep x.1.u x.1.l ∧ r'.b = r.b ∧ Fr w w' (fun k => r.foot k ∨ jfoot jb vr k) ∧
    (∀ k, k < w.heap.size → r'.foot k → r.foot k) ∧ (∀ k, k < w.heap.size → jfoot jb vr' k → jfoot jb vr k)
theorem JPost.dev {r r' : DRef} {jb B : Nat} {vr : Value} {J J' : Jn} {w w' : World} {b : Bool} (hj : JIs w B jb r.b vr J.ep J.u J.l) (hd : DevIs w r J.D) (h : DevIs w' r' J'.D) (k : DStep w r w' r') (h1 : J'.ep = J.ep) (h2 : J'.u = J.u) (h3 : J'.l = J.l) :
    JPost r jb B vr (J', b) w (.returned (.int .i64 (okE b))) w' := by
  refine ⟨rfl, r', vr, h, ?_, k.b, k.fr.mono (fun _ _ h => .inl h), k.sub, fun _ _ h => h⟩
  dsimp only
  rw [h1, h2, h3]
  exact hj.step hd k
theorem wrs_fst0 (D : Dev) (l : List (Nat × ByteArray)) (ep : Nat) : fst0 (wrs D l).1 ep = fst0 D ep ∧ hlf (wrs D l).1 = hlf D := by
  have := (wrs_len D l).1
  simp only [fst0, hlf, this, and_self]
set_option maxHeartbeats 1000000 in
set_option maxRecDepth 100000 in
theorem Append_any (r : DRef) (J : Jn) (jb B : Nat) (vr : Value) (s : ByteArray) (w : World) (h : DevIs w r J.D) (hj : JIs w B jb r.b vr J.ep J.u J.l) (hB : B ≤ w.heap.size)
    (hs : s.size ≤ 140737488351232) (hu : J.u ≤ 100000) (hlog : J.D.log.length ≤ 1000000) (hlr : J.l.length ≤ 1000000) :
    Calls Tryz.prog 13 #[.pointer (some ⟨jb, 0, none⟩), .string s] w (JPost r jb B vr (appendP J s) w) := by
  have ht := h.ok.top
  have hh := half_lt h
  obtain ⟨D, ep, u, l⟩ := J
  simp only at h hj hu hlog hlr ht hh
  have c0 := hj.c0
  have c1 := hj.c1
  have c2 := hj.c2
  have H := Lib.hid h
  have HJ := Lib.hid hj
  have HLG := Lib.hid hlog
  have HS := Lib.hid hs
  have HBB := Lib.hid hB
  clear h hj hlog hs hB
  have hcb : cnt s.size ≤ 2200000000000 := by have := HS.out; unfold cnt; omega
  have q1 : wrap64 (1 + (cnt s.size : Int)) = ((1 + cnt s.size : Nat) : Int) := by unfold wrap64; omega
  have q2 : wrap64 ((hlf D : Int) - (u : Int)) = (hlf D : Int) - u := by unfold wrap64; omega
  by_cases hfit : hlf D < u + 1 + cnt s.size
  · have hfit' : (hlf D : Int) - u < 1 + (cnt s.size : Int) := by omega
    have HP : ∀ (w : World), DevIs w r D → JIs w B jb r.b vr ep u l → JPost r jb B vr (appendP ⟨D, ep, u, l⟩ s) w (.returned (.int .i64 20)) w := by
      intro w hd hj
      have : appendP ⟨D, ep, u, l⟩ s = (⟨D, ep, u, l⟩, false) := by unfold appendP; exact if_pos hfit
      rw [this]
      exact JPost.dev (J := ⟨D, ep, u, l⟩) (J' := ⟨D, ep, u, l⟩) (b := false) hj hd hd (DStep.of_fr (Fr.refl _ _)) rfl rfl rfl
    have HP := Lib.hid HP
    go_enter Tryz.func13, Tryz.ntmps13
    go_wp2_with (first
      | (go_at_call 41; refine (half_any r D _ H.out).mono ?_; rintro e w2 ⟨rfl, rfl⟩)
      | (go_at_call 42; refine (cnt_any s.size _ HS.out).mono ?_; rintro e w2 ⟨rfl, rfl⟩))
    go_ret
    exact HP.out _ H.out HJ.out
  · have hfit' : ¬ (hlf D : Int) - u < 1 + (cnt s.size : Int) := by omega
    have HAP : Hid (appendP ⟨D, ep, u, l⟩ s = if (wrs D (appW D ep u s)).2 then (⟨(wrs D (appW D ep u s)).1, ep, u + 1 + cnt s.size, l ++ [s]⟩, true) else (⟨(wrs D (appW D ep u s)).1, ep, u, l⟩, false)) := by
      show _ = _; unfold appendP; rw [if_neg hfit]
    have hfa := fst0_le (D := D) ep
    go_enter Tryz.func13, Tryz.ntmps13
    go_wp2_with (first
      | (go_at_call 41; refine (half_any r D _ H.out).mono ?_; rintro e w2 ⟨rfl, rfl⟩)
      | (go_at_call 42; refine (cnt_any s.size _ HS.out).mono ?_; rintro e w2 ⟨rfl, rfl⟩))
    go_quiet (first | (refine Calls.quiet_of_same (first_any r D ep _ ?_); exact H.out.drewN _))
    have H3 : Hid (DevIs (w2.drewN nq) r D) := H.out.drewN nq
    have J3 : Hid (JIs (w2.drewN nq) B jb r.b vr ep u l) := HJ.out.drewN nq
    have hF3 : Fr w2 (w2.drewN nq) (fun k => r.foot k ∨ jfoot jb vr k) := (Fr.refl w2 _).drewN nq
    have F3 := Lib.hid hF3
    clear hF3 c0 c1 c2
    generalize w2.drewN nq = w3 at *
    have c0 := J3.out.c0
    have c2 := J3.out.c2
    obtain ⟨at_, hat⟩ : ∃ at_ : Nat, (fst0 D ep : Int) + u = at_ := ⟨fst0 D ep + u, by simp⟩
    have HAW : Hid (appW D ep u s = bodyW at_ s ++ ((if u + 1 + cnt s.size < hlf D then [(at_ + 1 + cnt s.size, (⟨#[]⟩ : ByteArray))] else []) ++ [(at_, headS s.size)])) := by
      have e1 : fst0 D ep + u = at_ := by omega
      show _ = _; unfold appW; rw [e1]
    have hat1 : at_ + 1 + cnt s.size ≤ D.now.length := by omega
    generalize fst0 D ep = a0 at *
    go_wp2_with fail
    refine (body_any r D jb at_ B vr ep u l s w3 H3.out J3.out hat1 HLG.out).mono ?_
    rintro e w4 ⟨rfl, r4, d4, k4⟩
    have D4 := Lib.hid d4
    have K4 := Lib.hid k4
    have hlen4 := wrs_len D (bodyW at_ s)
    rw [bodyW_len] at hlen4
    have J4 := Lib.hid (J3.out.step H3.out k4)
    have hr4 := k4.b
    clear d4 k4 c0 c2
    rcases hb4 : (wrs D (bodyW at_ s)).2 with _ | _
    · have HX : Hid (wrs D (appW D ep u s) = wrs D (bodyW at_ s)) := by
        show _ = _; rw [HAW.out, wrs_append, if_neg (by simp [hb4])]
      have HP : Hid (JPost r jb B vr (appendP ⟨D, ep, u, l⟩ s) w2 (.returned (.int .i64 20)) w4) := by
        show JPost _ _ _ _ _ _ _ _
        rw [HAP.out, HX.out, if_neg (by simp [hb4])]
        refine ⟨rfl, r4, vr, D4.out, J4.out, hr4, F3.out.trans (K4.out.fr.mono (fun _ _ h => Or.inl h)) (fun _ _ h => h), ?_, fun _ _ h => h⟩
        intro k hk hf
        exact K4.out.sub k (Nat.lt_of_lt_of_le hk F3.out.size) hf
      clear HX HAP HAW
      simp only [okE, Bool.false_eq_true, if_false]
      go_wp2_with fail
      go_ret
      exact HP.out
    · simp only [okE, if_true]
      have c0 := J4.out.c0
      have c2 := J4.out.c2
      have hlg4 : (wrs D (bodyW at_ s)).1.log.length ≤ 2000000 := by have := HLG.out; omega
      have HD4 : Hid (wrs D (bodyW at_ s) = ((wrs D (bodyW at_ s)).1, true)) := by show _ = _; rw [← hb4]
      obtain ⟨an, han⟩ : ∃ an : Nat, (at_ : Int) + (1 + (cnt s.size : Int)) = an := ⟨at_ + 1 + cnt s.size, by simp; omega⟩
      generalize hD4 : (wrs D (bodyW at_ s)).1 = D4' at *
      clear hD4 hb4
      by_cases hl3 : u + 1 + cnt s.size < hlf D
      focus
        have hl3' : (u : Int) + (1 + (cnt s.size : Int)) < (hlf D : Int) := by omega
        have HAW2 : Hid (wrs D (appW D ep u s) = wrs D4' ((an, (⟨#[]⟩ : ByteArray)) :: [(at_, headS s.size)])) := by
          have e1 : at_ + 1 + cnt s.size = an := by omega
          show _ = _; rw [HAW.out, if_pos hl3, wrs_append, if_pos (by rw [HD4.out]), HD4.out, e1]; rfl
        have han1 : an < D4'.now.length := by omega
        go_wp2_with fail
        rw [← hr4]
        refine (Wr_any r4 D4' an ⟨#[]⟩ w4 D4.out han1 (by decide) (by omega)).mono ?_
        rintro e w5 ⟨rfl, r5, d5, k5⟩
        have hlen5 := dwr_len D4' an (⟨#[]⟩ : ByteArray)
        have D5 := Lib.hid d5
        have J5 := Lib.hid (J4.out.step D4.out k5)
        have K5 := Lib.hid (K4.out.trans k5)
        have hr5 : r5.b = r.b := k5.b.trans hr4
        clear d5 k5 c0 c2
        rcases hb5 : (dwr D4' an (⟨#[]⟩ : ByteArray)).2 with _ | _
        focus
          have HX : Hid (wrs D (appW D ep u s) = dwr D4' an (⟨#[]⟩ : ByteArray)) := by
            show _ = _; rw [HAW2.out]; unfold wrs; rw [if_neg (by simp [hb5])]
          have HP : Hid (JPost r jb B vr (appendP ⟨D, ep, u, l⟩ s) w2 (.returned (.int .i64 20)) w5) := by
            show JPost _ _ _ _ _ _ _ _
            rw [HAP.out, HX.out, if_neg (by simp [hb5])]
            refine ⟨rfl, r5, vr, D5.out, J5.out, hr5, F3.out.trans (K5.out.fr.mono (fun _ _ h => Or.inl h)) (fun _ _ h => h), ?_, fun _ _ h => h⟩
            intro k hk hf
            exact K5.out.sub k (Nat.lt_of_lt_of_le hk F3.out.size) hf
          clear HX HAP HAW HAW2
          simp only [okE, Bool.false_eq_true, if_false]
          go_wp2_with fail
          go_ret
          exact HP.out
        have HAW5 : Hid (wrs D (appW D ep u s) = dwr (dwr D4' an (⟨#[]⟩ : ByteArray)).1 at_ (headS s.size)) := by
          show _ = _; rw [HAW2.out, wrs, if_pos (by simp [hb5]), wrs_one]
        generalize (dwr D4' an (⟨#[]⟩ : ByteArray)).1 = D5' at *
        have hlg5 : D5'.log.length ≤ 3000000 := by omega
        have hln5 : D5'.now.length = D.now.length := by omega
        have c0 := J5.out.c0
        clear HAW HAW2 D4 J4 K4 hlen4 hlg4 hr4 han1 hlen5 HD4 hb5
        simp only [okE, if_true]
        go_wp2_with fail
      rotate_left
      focus
        have hl3' : ¬ (u : Int) + (1 + (cnt s.size : Int)) < (hlf D : Int) := by omega
        have HAW5 : Hid (wrs D (appW D ep u s) = dwr D4' at_ (headS s.size)) := by
          show _ = _; rw [HAW.out, if_neg hl3, wrs_append, if_pos (by rw [HD4.out]), HD4.out]; exact wrs_one _ _ _
        go_wp2_with fail
        have D5 := D4
        have J5 := J4
        have K5 := K4
        have hr5 := hr4
        have hlg5 : D4'.log.length ≤ 3000000 := by omega
        have hln5 : D4'.now.length = D.now.length := by omega
        clear HAW D4 J4 K4 hlen4 hlg4 hr4 HD4 c2
        generalize D4' = D5' at *
        generalize w4 = w5 at *
        generalize r4 = r5 at *
      all_goals
        refine region_seq (fun w' => w'.cell? ⟨jb, 0, none⟩ = some (.pointer (some ⟨r.b, 0, none⟩))) []
          [(.p, 0), (.p, 1), (.p, 2), (.q, 3), (.p, 4), (.p, 5), (.l, 6), (.l, 7), (.p, 8)] (by kernel_rfl) (by kernel_rfl) (by kernel_rfl) (by kernel_rfl) (fun d v c a w h => by cases d <;> exact h) ?_
        have hS : w5.drew.cell? ⟨jb, 0, none⟩ = some (.pointer (some ⟨r.b, 0, none⟩)) := c0
        (refine seq_p (N := some 72) rfl rfl (by rfl) ?_ (fun w' => ?_) ?_
         rotate_left
         · go_simp
           with_reducible rfl
         simp only [Act.put, List.setIfInBounds_toArray, List.set_cons_zero, List.set_cons_succ])
        (refine seq_p (N := some 73) rfl rfl (by rfl) ?_ (fun w' => ?_) ?_
         rotate_left
         · go_simp
           with_reducible rfl
         simp only [Act.put, List.setIfInBounds_toArray, List.set_cons_zero, List.set_cons_succ])
        (refine seq_p (N := some 74) rfl rfl (by rfl) ?_ (fun w' => ?_) ?_
         rotate_left
         · go_simp
           with_reducible rfl
         simp only [Act.put, List.setIfInBounds_toArray, List.set_cons_zero, List.set_cons_succ])
        (refine seq_q (N := some 75) rfl rfl (by rfl) ?_ ?_ hS ?_
         rotate_left
         · rintro w' s1
           go_simp
           with_reducible rfl
         simp only [Act.put, List.setIfInBounds_toArray, List.set_cons_zero, List.set_cons_succ])
        (refine seq_p (N := some 76) rfl rfl (by rfl) ?_ (fun w' => ?_) ?_
         rotate_left
         · go_simp
           with_reducible rfl
         simp only [Act.put, List.setIfInBounds_toArray, List.set_cons_zero, List.set_cons_succ])
        (refine seq_p (N := some 77) rfl rfl (by rfl) ?_ (fun w' => ?_) ?_
         rotate_left
         · go_simp
           with_reducible rfl
         simp only [Act.put, List.setIfInBounds_toArray, List.set_cons_zero, List.set_cons_succ])
        refine seq_l rfl (by rfl) (wp_cl (N := some 78) (f := 45) (vs := #[.string s]) rfl rfl (by simp [Act.eval]) (callF Tryz.func45 rfl (by decide) _ _) ?_)
        refine (header_any s _ HS.out).mono ?_
        rintro e w6 ⟨rfl, b6⟩
        have b6' : Below w5.heap.size w5 w6 := ((Below.refl w5.heap.size w5).drew).trans (by exact b6)
        have D6 := Lib.hid (D5.out.below b6')
        have J6 := Lib.hid (J5.out.fr (Fr.of_below b6' Nowhere) (fun _ _ h => h))
        have K6 := Lib.hid (K5.out.trans (DStep.of_fr (Fr.of_below b6' _)))
        refine ⟨_, rfl, ?_⟩
        simp only [Act.put, List.setIfInBounds_toArray, List.set_cons_zero, List.set_cons_succ]
        refine ⟨fun _ => J6.out.c0, ?_⟩
        clear b6 b6'
        refine seq_l rfl (by rfl) (wp_cl (N := some 79) (f := 37) (vs := #[.pointer (some ⟨r5.b, 0, none⟩), .int .i64 at_, .string (headS s.size)]) rfl rfl (by simp [Act.eval, hr5]) (callF Tryz.func37 rfl (by decide) _ _) ?_)
        refine (Wr_any r5 D5' at_ (headS s.size) w6 D6.out (by omega) (headS_size _) (by omega)).mono ?_
        rintro e w7 ⟨rfl, r7, d7, k7⟩
        have D7 := Lib.hid d7
        have J7 := Lib.hid (J6.out.step D6.out k7)
        have K7 := Lib.hid (K6.out.trans k7)
        have hr7 : r7.b = r.b := k7.b.trans hr5
        refine ⟨_, rfl, ?_⟩
        simp only [Act.put, List.setIfInBounds_toArray, List.set_cons_zero, List.set_cons_succ]
        refine ⟨fun _ => J7.out.c0, ?_⟩
        clear d7 k7 hS c0
        (refine seq_p (N := some 11) rfl rfl (by rfl) ?_ (fun w' => ?_) ?_
         rotate_left
         · go_simp
           with_reducible rfl
         simp only [Act.put, List.setIfInBounds_toArray, List.set_cons_zero, List.set_cons_succ])
        refine seq_nil ?_
        rcases hb7 : (dwr D5' at_ (headS s.size)).2 with _ | _
        · have HP : Hid (JPost r jb B vr (appendP ⟨D, ep, u, l⟩ s) w2 (.returned (.int .i64 20)) w7) := by
            show JPost _ _ _ _ _ _ _ _
            rw [HAP.out, HAW5.out, if_neg (by simp [hb7])]
            refine ⟨rfl, r7, vr, D7.out, J7.out, hr7, F3.out.trans (K7.out.fr.mono (fun _ _ h => Or.inl h)) (fun _ _ h => h), ?_, fun _ _ h => h⟩
            intro k hk hf
            exact K7.out.sub k (Nat.lt_of_lt_of_le hk F3.out.size) hf
          clear HAP HAW5
          simp only [okE, Bool.false_eq_true, if_false]
          go_wp2_with fail
          go_ret
          exact HP.out
        · have HAP2 : Hid (appendP ⟨D, ep, u, l⟩ s = (⟨(dwr D5' at_ (headS s.size)).1, ep, u + 1 + cnt s.size, l ++ [s]⟩, true)) := by
            show _ = _; rw [HAP.out, HAW5.out, if_pos hb7]
          generalize (dwr D5' at_ (headS s.size)).1 = D7' at *
          clear HAP HAW5 hb7
          have e8 : (u : Int) + (1 + (cnt s.size : Int)) = ((u + 1 + cnt s.size : Nat) : Int) := by omega
          have E8 := Lib.hid e8
          have c2 := J7.out.c2
          have c3 := J7.out.c3
          have f2 := J7.out.fz 2
          have f3 := J7.out.fz 3
          have J8 : Hid (JIs (w7.setCell ⟨jb, 2, none⟩ (.int .i64 ((u : Int) + (1 + (cnt s.size : Int))))) B jb r.b vr ep (u + 1 + cnt s.size) l) := J7.out.put 2 _ (by rw [E8.out]; rfl) rfl
          have F8 : Hid (Fr w2 (w7.setCell ⟨jb, 2, none⟩ (.int .i64 ((u : Int) + (1 + (cnt s.size : Int))))) (fun k => r.foot k ∨ jfoot jb vr k)) :=
            (F3.out.trans (K7.out.fr.mono (fun _ _ h => Or.inl h)) (fun _ _ h => h)).setCell ⟨jb, 2, none⟩ _ (fun _ => .inr (.inl rfl))
          have D8 : Hid (DevIs (w7.setCell ⟨jb, 2, none⟩ (.int .i64 ((u : Int) + (1 + (cnt s.size : Int))))) r7 D7') :=
            D7.out.fr (S := fun k => k = jb) ((Fr.refl _ _).setCell ⟨jb, 2, none⟩ _ (fun _ => rfl)) (by rintro i hi rfl; exact jfoot_dev J7.out D7.out (.inl rfl) hi)
          simp only [okE, if_true]
          clear e8
          have hsz8 : (w7.setCell ⟨jb, 2, none⟩ (.int .i64 ((u : Int) + (1 + (cnt s.size : Int))))).heap.size = w7.heap.size := by simp
          have hB8 : B ≤ (w7.setCell ⟨jb, 2, none⟩ (.int .i64 ((u : Int) + (1 + (cnt s.size : Int))))).heap.size := Nat.le_trans HBB.out F8.out.size
          have HB8 := Lib.hid hB8
          clear hsz8 hB8
          go_wp2_with (
            at_builtin
            refine app1 rfl _ _ 22 9 (.string ⟨#[]⟩) 1 16 B [.string s] rfl Tryz.underlying22 info_str rfl (by omega) (by omega) vr l.length (l.map .string) (by rfl) (by simp [Act.eval]) rfl (by simp [Value.oneCell']) J8.out.hr HB8.out (by omega) ?_
            intro v9 w9 hown9 hg9 hat9
            have hne9 : vr.ownBlock ≠ some jb := fun e => own_ne J8.out.hr J8.out.hb (by decide) e rfl
            have g3 : w9.cell? ⟨jb, 3, none⟩ = some vr := (World.cell?_of_block (hg9.block _ J8.out.lt (fun e => hne9 e.symm))).trans J8.out.c3
            have h3 : w9.frozen? ⟨jb, 3, none⟩ = false := (World.frozen?_of_block (hg9.block _ J8.out.lt (fun e => hne9 e.symm))).trans (J8.out.fz 3)
            obtain ⟨ao, n', cap, rfl⟩ : ∃ ao n' cap, v9 = .slice ao n' cap := by
              rcases hown9.2 with ⟨hv, _⟩ | ⟨g, cap, cur, hv, _⟩
              · exact ⟨_, _, _, hv⟩
              · exact ⟨_, _, _, hv⟩
            have J9 := Lib.hid (J8.out.push s hg9 hown9)
            have F9 := Lib.hid ((F8.out.tr (Fr.grown hg9 (fun k hk _ => .inr (.inr hk)))).setCell ⟨jb, 3, none⟩ (.slice ao n' cap) (fun _ => .inr (.inl rfl)))
            have G9 := Lib.hid hg9
            have A9 := Lib.hid hat9
            have N9 := Lib.hid hne9
            clear hown9 hg9 hat9 hne9)
          go_ret
          show JPost _ _ _ _ _ _ _ _
          rw [HAP2.out]
          refine ⟨rfl, r7, .slice ao n' cap, ?_, J9.out, hr7, F9.out, ?_, ?_⟩
          · exact D8.out.fr (S := fun k => jfoot jb vr k) ((Fr.grown G9.out (fun k hk _ => .inr hk)).setCell ⟨jb, 3, none⟩ _ (fun _ => .inl rfl)) (fun i hi hj => jfoot_dev J8.out D8.out hj hi)
          · intro k hk hf
            exact K7.out.sub k (Nat.lt_of_lt_of_le hk F3.out.size) hf
          · intro k hk hf
            rcases hf with rfl | hf
            · exact .inl rfl
            · rcases A9.out with h9 | h9
              · exact .inr (h9 ▸ hf)
              · rw [h9] at hf
                have h8 := F8.out.size
                simp only [Option.some.injEq] at hf
                omega
end Go.Proofs.YtjflcpkmoamijaaGreatDoor
