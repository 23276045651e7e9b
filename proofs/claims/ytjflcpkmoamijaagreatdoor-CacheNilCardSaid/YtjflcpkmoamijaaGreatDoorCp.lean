import Derived.Test.YtjflcpkmoamijaaGreatDoorCo
namespace Go.Proofs.YtjflcpkmoamijaaGreatDoor
open Go.RowKit
set_option linter.unusedVariables false
set_option linter.unusedSimpArgs false
set_option linter.unnecessarySimpa false

/-- A cache, as an operation finds and leaves it. -/
structure Cn where
  J : Jn
  ver : Int
  T : List Bl
def putC (C : Cn) (ver : Int) (l : List Bl) : Cn × Int :=
  if ver ≤ C.ver ∨ 2147483647 < ver then (C, 21) else if ordB l = false then (C, 6) else
  if (appendP C.J (encP ver l)).2 then (⟨(appendP C.J (encP ver l)).1, ver, applyT C.T l⟩, 0) else (⟨(appendP C.J (encP ver l)).1, C.ver, C.T⟩, 20)
def cfoot (r : DRef) (cb jb mb : Nat) (vr : Value) (k : Nat) : Prop := r.foot k ∨ k = cb ∨ k = mb ∨ jfoot jb vr k
def CIn (w : World) (B : Nat) (r : DRef) (cb jb mb n : Nat) (vr : Value) (C : Cn) : Prop :=
  DevIs w r C.J.D ∧ CIs w B cb jb r.b mb n vr C.ver C.J.ep C.J.u C.J.l C.T
def CaPost (r : DRef) (cb jb mb B n : Nat) (vr : Value) (x : Cn × Int) (w : World) (e : Ending) (w' : World) : Prop :=
  e = .returned (.int .i64 x.2) ∧ ∃ r' vr' n', n' ≤ n ∧ CIn w' B r' cb jb mb n' vr' x.1 ∧ r'.b = r.b ∧ Fr w w' (cfoot r cb jb mb vr) ∧ (∀ k, k < w.heap.size → cfoot r' cb jb mb vr' k → cfoot r cb jb mb vr k)
theorem map_dev_ne {w : World} {r : DRef} {D : Dev} {mb n : Nat} {T : List Bl} (d : DevIs w r D) (hm : MapIs w mb n T) : ¬ r.foot mb := by
  rintro (e | e | e | e)
  · exact hm.ne_cells d.hb e.symm
  · exact hm.ne_cells d.hf e.symm
  · exact hm.ne_cells d.hn e.symm
  · exact own_map_ne d.hl hm e rfl
theorem cc_dev_ne {w : World} {r : DRef} {D : Dev} {cb jb mb : Nat} {ver : Int} (d : DevIs w r D) (hc : CCell w cb jb mb ver) : ¬ r.foot cb := by
  rintro (e | e | e | e)
  · exact ne_of_elem hc d.hb (by decide) e
  · exact ne_of_elem hc d.hf (by decide) e
  · exact ne_of_elem hc d.hn (by decide) e
  · exact own_ne d.hl hc (by decide) e rfl
theorem cc_j_ne {w : World} {B cb jb db mb' jb' : Nat} {ver : Int} {vr : Value} {ep u : Nat} {l : List ByteArray} (j : JIs w B jb db vr ep u l) (hc : CCell w cb jb' mb' ver) : ¬ jfoot jb vr cb := by
  rintro (e | e)
  · exact ne_of_elem hc j.hb (by decide) e
  · exact own_ne j.hr hc (by decide) e rfl
theorem map_j_ne {w : World} {B jb db mb n : Nat} {vr : Value} {ep u : Nat} {l : List ByteArray} {T : List Bl} (j : JIs w B jb db vr ep u l) (hm : MapIs w mb n T) : ¬ jfoot jb vr mb := by
  rintro (e | e)
  · exact hm.ne_cells j.hb e.symm
  · exact own_map_ne j.hr hm e rfl
theorem fold_enc_size : ∀ (l : List Bl) (s : ByteArray), (∀ b ∈ l, b.fits) → (l.foldl encOne s).size ≤ s.size + l.length * 4294967336
  | [], s, _ => by simp
  | x :: l, s, h => by
    have h1 := encOne_size s x (h x List.mem_cons_self)
    have h2 := fold_enc_size l (encOne s x) (fun b hb => h b (List.mem_cons_of_mem _ hb))
    simp only [List.foldl_cons, List.length_cons]
    omega
theorem encP_size (ver : Int) (l : List Bl) (h : ∀ b ∈ l, b.fits) : (encP ver l).size ≤ 20 + l.length * 4294967336 := by
  have h1 := encStart_size ver l.length
  have h2 := fold_enc_size l (app (putI ⟨#[]⟩ ver) (encU l.length)) h
  unfold encP; omega
theorem Version_nil (w : World) : Calls Tryz.prog 27 #[.pointer none] w fun e w' => e = .returned (.int .i64 (-1)) ∧ w' = w := by
  go_enter Tryz.func27, Tryz.ntmps27
  go_wp2
  go_ret
  exact ⟨rfl, rfl⟩
theorem Version_any (cb jb mb : Nat) (ver : Int) (w : World) (h : CCell w cb jb mb ver) : Calls Tryz.prog 27 #[.pointer (some ⟨cb, 0, none⟩)] w fun e w' => e = .returned (.int .i64 ver) ∧ w' = w := by
  have c1 := h.c1
  clear h
  go_enter Tryz.func27, Tryz.ntmps27
  go_wp2
  go_ret
  exact ⟨rfl, rfl⟩
theorem Tiles_nil (w : World) : Calls Tryz.prog 28 #[.pointer none] w fun e w' => e = .returned (.slice none 0 0) ∧ w' = w := by
  go_enter Tryz.func28, Tryz.ntmps28
  go_wp2
  go_ret
  exact ⟨rfl, rfl⟩
theorem Put_nil (ver : Int) (v : Value) (w : World) : Calls Tryz.prog 22 #[.pointer none, .int .i64 ver, v] w fun e w' => e = .returned (.int .i64 1) ∧ w' = w := by
  go_enter Tryz.func22, Tryz.ntmps22
  go_wp2
  go_ret
  exact ⟨rfl, rfl⟩
theorem Compact_nil (w : World) : Calls Tryz.prog 24 #[.pointer none] w fun e w' => e = .returned (.int .i64 1) ∧ w' = w := by
  go_enter Tryz.func24, Tryz.ntmps24
  go_wp2
  go_ret
  exact ⟨rfl, rfl⟩
theorem JFormat_nil (w : World) : Calls Tryz.prog 11 #[.pointer none] w fun e w' => e = .returned (.int .i64 1) ∧ w' = w := by
  go_enter Tryz.func11, Tryz.ntmps11
  go_wp2_with (refine (check_nil _).mono ?_; rintro e w2 ⟨rfl, rfl⟩)
  go_ret
  exact ⟨rfl, rfl⟩
theorem CFormat_nil (w : World) : Calls Tryz.prog 20 #[.pointer none] w fun e w' => e = .returned (.int .i64 1) ∧ w' = w := by
  go_enter Tryz.func20, Tryz.ntmps20
  go_wp2_with (refine (JFormat_nil _).mono ?_; rintro e w2 ⟨rfl, rfl⟩)
  go_ret
  exact ⟨rfl, rfl⟩
theorem CFormat_any (r : DRef) (D : Dev) (w : World) (h : DevIs w r D) (hl : D.lim = false) (h5 : 5 ≤ D.now.length) (hlog : D.log.length ≤ 1000000) :
    Calls Tryz.prog 20 #[.pointer (some ⟨r.b, 0, none⟩)] w (FPost r 0 D.format w) := by
  have hf := Lib.hid (Format_any r D w h hl h5 hlog)
  clear h
  go_enter Tryz.func20, Tryz.ntmps20
  go_wp2_with (refine hf.out.mono ?_; rintro e w2 ⟨rfl, h2⟩; have H2 := Lib.hid h2; clear h2)
  go_ret
  exact ⟨rfl, H2.out⟩
set_option maxHeartbeats 1000000 in
set_option maxRecDepth 100000 in
theorem Put_any (r : DRef) (cb jb mb B n : Nat) (vr : Value) (C : Cn) (ver : Int) (v : Value) (l : List Bl) (w : World) (h : CIn w B r cb jb mb n vr C) (hB : B ≤ w.heap.size) (hb : BlobsAt w v l)
    (hne : ∀ k, v.ownBlock = some k → ¬ cfoot r cb jb mb vr k) (hv : InInt ver) (hl : l.length ≤ 1000) (hsz : ∀ b ∈ l, b.s.size ≤ 4294967296) (hn : n ≤ 900000000) (hu : C.J.u ≤ 100000) (hlog : C.J.D.log.length ≤ 1000000) (hlr : C.J.l.length ≤ 1000000) :
    Calls Tryz.prog 22 #[.pointer (some ⟨cb, 0, none⟩), .int .i64 ver, v] w (CaPost r cb jb mb B (n + 1000) vr (putC C ver l) w) := by
  obtain ⟨J, ver0, T⟩ := C
  obtain ⟨hd, hc⟩ := h
  simp only at hd hc hu hlog hlr
  have c0 := hc.c.c0
  have c1 := hc.c.c1
  have same : ∀ (w' : World) (e0 : Int), Below w.heap.size w w' → CaPost r cb jb mb B (n + 1000) vr (⟨J, ver0, T⟩, e0) w (.returned (.int .i64 e0)) w' := by
    intro w' e0 hb'
    exact ⟨rfl, r, vr, n, by omega, ⟨hd.below hb', hc.below hb'⟩, rfl, Fr.of_below hb' _, fun _ _ h => h⟩
  have HS := Lib.hid same
  have HD := Lib.hid hd
  have HC := Lib.hid hc
  have HB := Lib.hid hb
  have HNE := Lib.hid hne
  have HV := Lib.hid hv
  have HSZ := Lib.hid hsz
  clear same hd hc hb hne hv hsz
  by_cases h1 : ver ≤ ver0
  · have hp : putC ⟨J, ver0, T⟩ ver l = (⟨J, ver0, T⟩, 21) := if_pos (.inl h1)
    rw [hp]
    clear hp
    go_enter Tryz.func22, Tryz.ntmps22
    go_wp2_with fail
    go_ret
    exact HS.out _ _ (Below.refl _ _)
  · by_cases h2 : 2147483647 < ver
    · have hp : putC ⟨J, ver0, T⟩ ver l = (⟨J, ver0, T⟩, 21) := if_pos (.inr h2)
      rw [hp]
      clear hp
      go_enter Tryz.func22, Tryz.ntmps22
      go_wp2_with fail
      go_ret
      exact HS.out _ _ (Below.refl _ _)
    · have hord := Lib.hid (ordered_any v l w HB.out (by omega))
      rcases hob : ordB l with _ | _
      · have hp : putC ⟨J, ver0, T⟩ ver l = (⟨J, ver0, T⟩, 6) := by unfold putC; rw [if_neg (by simp; omega), if_pos hob]
        rw [hp]
        clear hp
        go_enter Tryz.func22, Tryz.ntmps22
        go_wp2_with (go_at_call 47; refine hord.out.mono ?_; rintro e w6 ⟨rfl, b6⟩; rw [hob])
        go_ret
        exact HS.out _ _ b6
      · have hp : Hid (putC ⟨J, ver0, T⟩ ver l = if (appendP J (encP ver l)).2 then (⟨(appendP J (encP ver l)).1, ver, applyT T l⟩, 0) else (⟨(appendP J (encP ver l)).1, ver0, T⟩, 20)) := by
          show _ = _; unfold putC; rw [if_neg (by simp; omega), if_neg (by simp [hob])]
        have hf : Hid (∀ b ∈ l, b.fits) := by
          intro b hb
          have h1 := ok_fits (ord_ok hob b hb)
          exact ⟨h1.1, h1.2.1, h1.2.2, HSZ.out b hb⟩
        have hes := encP_size ver l hf.out
        go_enter Tryz.func22, Tryz.ntmps22
        go_wp2_with (go_at_call 47; refine hord.out.mono ?_; rintro e w6 ⟨rfl, b6⟩; rw [hob]; have B6 := Lib.hid b6; clear b6)
        have C6 := Lib.hid (HC.out.below B6.out)
        have D6 := Lib.hid (HD.out.below B6.out)
        have V6 := Lib.hid (HB.out.fr (Fr.of_below B6.out Nowhere) (fun _ _ h => h))
        clear c0 c1
        have c0 := C6.out.c.c0
        refine region_seq (fun w' => w'.cell? ⟨cb, 0, none⟩ = some (.pointer (some ⟨jb, 0, none⟩))) []
          [(.p, 0), (.p, 1), (.p, 2), (.q, 3), (.p, 4), (.p, 5), (.l, 6), (.l, 7), (.p, 8)] (by kernel_rfl) (by kernel_rfl) (by kernel_rfl) (by kernel_rfl) (fun d v c a w h => by cases d <;> exact h) ?_
        have hS : w6.drew.cell? ⟨cb, 0, none⟩ = some (.pointer (some ⟨jb, 0, none⟩)) := c0
        (refine seq_p (N := some 23) rfl rfl (by rfl) ?_ (fun w' => ?_) ?_
         rotate_left
         · go_simp
           with_reducible rfl
         simp only [Act.put, List.setIfInBounds_toArray, List.set_cons_zero, List.set_cons_succ])
        (refine seq_p (N := some 24) rfl rfl (by rfl) ?_ (fun w' => ?_) ?_
         rotate_left
         · go_simp
           with_reducible rfl
         simp only [Act.put, List.setIfInBounds_toArray, List.set_cons_zero, List.set_cons_succ])
        (refine seq_p (N := some 25) rfl rfl (by rfl) ?_ (fun w' => ?_) ?_
         rotate_left
         · go_simp
           with_reducible rfl
         simp only [Act.put, List.setIfInBounds_toArray, List.set_cons_zero, List.set_cons_succ])
        (refine seq_q (N := some 26) rfl rfl (by rfl) ?_ ?_ hS ?_
         rotate_left
         · rintro w' s1
           go_simp
           with_reducible rfl
         simp only [Act.put, List.setIfInBounds_toArray, List.set_cons_zero, List.set_cons_succ])
        (refine seq_p (N := some 27) rfl rfl (by rfl) ?_ (fun w' => ?_) ?_
         rotate_left
         · go_simp
           with_reducible rfl
         simp only [Act.put, List.setIfInBounds_toArray, List.set_cons_zero, List.set_cons_succ])
        (refine seq_p (N := some 28) rfl rfl (by rfl) ?_ (fun w' => ?_) ?_
         rotate_left
         · go_simp
           with_reducible rfl
         simp only [Act.put, List.setIfInBounds_toArray, List.set_cons_zero, List.set_cons_succ])
        refine seq_l rfl (by rfl) (wp_cl (N := some 29) (f := 55) (vs := #[.int .i64 ver, v]) rfl rfl (by simp [Act.eval]) (callF Tryz.func55 rfl (by decide) _ _) ?_)
        refine (encode_any ver v l w6.drew (V6.out.drewN 1) HV.out hl hf.out).mono ?_
        rintro e w7 ⟨rfl, b7⟩
        have b7' : Below w6.heap.size w6 w7 := ((Below.refl w6.heap.size w6).drew).trans (by exact b7)
        have B7 := Lib.hid (B6.out.trans (b7'.mono B6.out.size))
        have C7 := Lib.hid (C6.out.below b7')
        have D7 := Lib.hid (D6.out.below b7')
        have V7 := Lib.hid (V6.out.fr (Fr.of_below b7' Nowhere) (fun _ _ h => h))
        refine ⟨_, rfl, ?_⟩
        simp only [Act.put, List.setIfInBounds_toArray, List.set_cons_zero, List.set_cons_succ]
        refine ⟨fun _ => C7.out.c.c0, ?_⟩
        clear b7 b7'
        refine seq_l rfl (by rfl) (wp_cl (N := some 30) (f := 13) (vs := #[.pointer (some ⟨jb, 0, none⟩), .string (encP ver l)]) rfl rfl (by simp [Act.eval]) (callF Tryz.func13 rfl (by decide) _ _) ?_)
        refine (Append_any r J jb B vr (encP ver l) w7 D7.out C7.out.j (Nat.le_trans hB B7.out.size) (by omega) hu hlog hlr).mono ?_
        rintro e w8 ⟨rfl, r8, vr8, d8, j8, e8, f8, s8, t8⟩
        have nc := cc_dev_ne D7.out C7.out.c
        have nm := map_dev_ne D7.out C7.out.m
        have ncj := cc_j_ne C7.out.j C7.out.c
        have nmj := map_j_ne C7.out.j C7.out.m
        have c8 : CCell w8 cb jb mb ver0 := C7.out.c.fr f8 (fun h => h.elim nc ncj)
        have m8 : MapIs w8 mb n T := C7.out.m.fr f8 (fun h => h.elim nm nmj)
        have v8 : BlobsAt w8 v l := V7.out.fr f8 (fun k hk h => HNE.out k hk (h.elim .inl (fun h => .inr (.inr (.inr h)))))
        have F8 : Fr w w8 (cfoot r cb jb mb vr) := (Fr.of_below B7.out _).trans f8 (fun k _ h => h.elim .inl (fun h => .inr (.inr (.inr h))))
        have S8 : ∀ k, k < w.heap.size → cfoot r8 cb jb mb vr8 k → cfoot r cb jb mb vr k := by
          intro k hk h
          have hk7 : k < w7.heap.size := Nat.lt_of_lt_of_le hk B7.out.size
          rcases h with h | h | h | h
          · exact .inl (s8 k hk7 h)
          · exact .inr (.inl h)
          · exact .inr (.inr (.inl h))
          · exact .inr (.inr (.inr (t8 k hk7 h)))
        have D8 := Lib.hid d8
        have J8 := Lib.hid j8
        have C8 := Lib.hid c8
        have M8 := Lib.hid m8
        have V8 := Lib.hid v8
        have HF8 := Lib.hid F8
        have HS8 := Lib.hid S8
        refine ⟨_, rfl, ?_⟩
        simp only [Act.put, List.setIfInBounds_toArray, List.set_cons_zero, List.set_cons_succ]
        refine ⟨fun _ => C8.out.c0, ?_⟩
        clear d8 j8 f8 s8 t8 nc nm ncj nmj c8 m8 v8 F8 S8 hS c0
        (refine seq_p (N := some 7) rfl rfl (by rfl) ?_ (fun w' => ?_) ?_
         rotate_left
         · go_simp
           with_reducible rfl
         simp only [Act.put, List.setIfInBounds_toArray, List.set_cons_zero, List.set_cons_succ])
        refine seq_nil ?_
        rcases hap : (appendP J (encP ver l)).2 with _ | _
        · have HP : Hid (CaPost r cb jb mb B (n + 1000) vr (putC ⟨J, ver0, T⟩ ver l) w (.returned (.int .i64 20)) w8) := by
            show CaPost _ _ _ _ _ _ _ _ _ _ _
            rw [hp.out, hap, if_neg (by simp)]
            refine ⟨rfl, r8, vr8, n, by omega, ⟨D8.out, ⟨C8.out, ?_, M8.out, HC.out.so, HC.out.fi⟩⟩, e8, HF8.out, HS8.out⟩
            rw [e8]; exact J8.out
          simp only [okE, Bool.false_eq_true, if_false]
          go_wp2_with fail
          go_ret
          exact HP.out
        · have hJne : v.ownBlock ≠ some cb := fun e => HNE.out cb e (.inr (.inl rfl))
          simp only [okE, if_true]
          go_wp2_with fail
          refine (apply_any cb jb mb n ver0 ver v T l w8 C8.out M8.out V8.out hJne hf.out (by omega)).mono ?_
          rintro e w9 ⟨rfl, c9, m9, f9⟩
          have HP : Hid (CaPost r cb jb mb B (n + 1000) vr (putC ⟨J, ver0, T⟩ ver l) w (.returned (.int .i64 0)) w9) := by
            show CaPost _ _ _ _ _ _ _ _ _ _ _
            rw [hp.out, hap, if_pos rfl]
            refine ⟨rfl, r8, vr8, n + l.length, by omega, ⟨D8.out.fr f9 ?_, ⟨c9, ?_, m9, HC.out.so.apply _, HC.out.fi.apply hf.out⟩⟩, e8, HF8.out.trans f9 (fun k _ h => h.elim (fun h => .inr (.inl h)) (fun h => .inr (.inr (.inl h)))), HS8.out⟩
            · rintro k hk (rfl | rfl)
              · exact cc_dev_ne D8.out C8.out hk
              · exact map_dev_ne D8.out M8.out hk
            · rw [e8]
              refine J8.out.fr f9 ?_
              rintro k hk (rfl | rfl)
              · exact cc_j_ne J8.out C8.out hk
              · exact map_j_ne J8.out M8.out hk
          clear c9 m9 f9
          go_wp2_with fail
          go_ret
          exact HP.out
end Go.Proofs.YtjflcpkmoamijaaGreatDoor
