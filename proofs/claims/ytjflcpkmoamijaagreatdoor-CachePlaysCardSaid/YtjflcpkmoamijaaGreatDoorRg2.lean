import Derived.Test.YtjflcpkmoamijaaGreatDoorRg
namespace Go.Proofs.YtjflcpkmoamijaaGreatDoor
open Go.RowKit
set_option linter.unusedVariables false
set_option linter.unusedSimpArgs false
set_option linter.unnecessarySimpa false

/-! ### The reference's reader -/
def rdv (s : ByteArray) (a : Nat) (e : Int) : Value := .agg #[.string s, .int .i64 a, .int .i64 e]
def nxt (s : ByteArray) (a : Nat) : Int × Nat × Int := ((uintR s a).1, if (uintR s a).2.1 = 0 then (uintR s a).2.2 - a else 0, (uintR s a).2.1)
set_option maxHeartbeats 2000000 in
set_option maxRecDepth 100000 in
theorem next_any (s : ByteArray) (a : Nat) (er : Int) (w : World) (hs : s.size ≤ 140737488351232) (ha : a ≤ s.size) :
    Calls Tryz.prog 113 #[rdv s a er] w fun e w' => e = .returned (.tuple #[.int .u64 (nxt s a).1, .int .i64 (nxt s a).2.1, .int .i64 (nxt s a).2.2]) ∧ Below w.heap.size w w' := by
  have B1 := Lib.hid ((Below.refl w.heap.size w).alloc (Nat.le_refl _) (.cells #[.string s, .int .i64 a, .int .i64 er] 126))
  have hbe := fun i => byte_ext s a i ha
  have hte : (s.extract a s.size).size = s.size - a := by simp
  have HBE := Lib.hid hbe
  have HN : Hid (∀ v k e, (uintR s a).1 = v → (if (uintR s a).2.1 = 0 then (uintR s a).2.2 - a else 0) = k → (uintR s a).2.1 = e → nxt s a = (v, k, e)) := by
    rintro v k e rfl rfl rfl; rfl
  clear hbe
  unfold rdv
  go_enter Tryz.func113, Tryz.ntmps113
  go_wp2_with fail
  generalize ht : s.extract a s.size = t at *
  clear ht
  generalize w.alloc (.cells #[.string s, .int .i64 a, .int .i64 er] 126) = w1 at *
  have HTE := Lib.hid hte
  have htl : t.size ≤ 140737488351232 := by omega
  clear hte
  go_loopw [6] (fun v wr => ∃ k : Nat, v = .int .i64 k ∧ k ≤ 10 ∧ k ≤ t.size ∧ wr = w1 ∧ Hid (∀ i, i < k → 128 ≤ byteAt t i)) (fun v _ => 10 - (intOf v).toNat)
  case atStart => exact ⟨0, rfl, by omega, by omega, rfl, fun i hi => absurd hi (Nat.not_lt_zero _)⟩
  case round =>
    obtain ⟨k, rfl, hk, hkt, hw, hall⟩ := hrel
    subst hw
    have HALL : Hid (∀ i, i < k → a + i < s.size ∧ 128 ≤ byteAt s (a + i)) := by
      intro i hi
      have h1 := hall.out i hi
      rw [HBE.out i] at h1
      have := HTE.out
      exact ⟨by omega, h1⟩
    by_cases hk10 : k < 10
    · have hk10' : (k : Int) < 10 := by omega
      by_cases hlt : k < t.size
      · have hlt' : (k : Int) < (t.size : Int) := by omega
        have hb : byteAt t k = t[k].toNat := by simp [byteAt, hlt]
        have hbs := HBE.out k
        have HTS : Hid (a + k < s.size) := by show _ < _; have := HTE.out; omega
        by_cases hc : 128 ≤ t[k].toNat
        · have hci : (128 : Int) ≤ (t[k].toNat : Int) := by omega
          have HA2 : Hid (∀ i, i < k + 1 → 128 ≤ byteAt t i) := by
            intro i hi
            by_cases h : i < k
            · exact hall.out i h
            · obtain rfl : i = k := by omega
              rw [hb]; exact hc
          clear hb hbs
          go_wp2_with fail
          go_roundw
          case rel => exact ⟨k + 1, by go_num, by omega, by omega, by first | rfl | trivial, HA2.out⟩
          case measure => simp [intOf]; omega
        · have hci : ¬ (128 : Int) ≤ (t[k].toNat : Int) := by omega
          have hc1 : byteAt s (a + k) < 128 := by rw [← hbs, hb]; omega
          have HC1 := Lib.hid hc1
          have hb2 : byteAt s (a + k) = t[k].toNat := by rw [← hbs, hb]
          have HB2 := Lib.hid hb2
          have hkne : ¬ (k : Int) = 10 := by omega
          have hkse : ¬ (k : Int) = (t.size : Int) := by omega
          clear hb hbs hc1 hb2
          have HBF : Hid ((0 < k ∧ t[k].toNat = 0) ∨ (k = 9 ∧ 1 < t[k].toNat) → nxt s a = (0, 0, 4)) := by
            intro hbad
            have hr := next_bad hk10 HALL.out HTS.out HC1.out (by rw [HB2.out]; exact hbad)
            exact HN.out 0 0 4 hr.2 (by rw [hr.1]; rfl) hr.1
          have HOK : Hid (¬ ((0 < k ∧ t[k].toNat = 0) ∨ (k = 9 ∧ 1 < t[k].toNat)) → nxt s a = (((hiV s a (k + 1) : Nat) : Int), k + 1, 0) ∧ hiV s a (k + 1) < 18446744073709551616) := by
            intro hok
            have hr := next_ok hk10 HALL.out HTS.out HC1.out (by rw [HB2.out]; exact hok)
            refine ⟨HN.out _ _ _ (by rw [hr.1]) (by rw [hr.1]; simp <;> omega) (by rw [hr.1]), hr.2⟩
          have HTSZ : Hid (∀ j, j ≤ k → ∃ h : j < t.size, dig s (a + j) = t[j].toNat % 128) := by
            intro j hj
            have h : j < t.size := by omega
            refine ⟨h, ?_⟩
            have := HBE.out j
            unfold dig
            rw [← this]
            simp [byteAt, h]
          clear HALL HC1 HB2 HTS hall HBE HTE
          by_cases h9 : k = 9
          focus
            have hd : ((k : Int) == 9) = true := by rw [beq_iff_eq]; omega
            have h9l : (9 : Int) < (t.size : Int) := by omega
            have h9n : 9 < t.size := by omega
            have e9 : t[9].toNat = t[k].toNat := by subst h9; rfl
            by_cases h1 : 1 < t[9].toNat
            focus
              have hF := Lib.hid (HBF.out (.inr ⟨h9, by omega⟩))
              have h1' : (1 : Int) < (t[9].toNat : Int) := by omega
              clear HBF HOK e9 h9
              go_wp2_with fail
              go_ret3
              rw [hF.out]
              exact ⟨rfl, B1.out⟩
            have h1' : ¬ (1 : Int) < (t[9].toNat : Int) := by omega
            have hd0 : 0 < k := by omega
            by_cases h0 : t[k].toNat = 0
            focus
              have hF := Lib.hid (HBF.out (.inl ⟨by omega, h0⟩))
              have h0' : ((t[k].toNat : Int) == 0) = true := by rw [beq_iff_eq]; omega
              clear HBF HOK e9 h9 h0
              go_wp2_with fail
              go_ret3
              rw [hF.out]
              exact ⟨rfl, B1.out⟩
            have h0' : ((t[k].toNat : Int) == 0) = false := by rw [beq_eq_false_iff_ne]; omega
            have hOK := HOK.out (by omega)
            have HF := Lib.hid hOK.1
            have HV := Lib.hid hOK.2
            clear hOK HBF HOK e9 h9 h0
            go_wp2_with fail
            clear h0' hd hd0
          rotate_left
          focus
            have hd : ((k : Int) == 9) = false := by rw [beq_eq_false_iff_ne]; omega
            by_cases hk0 : 0 < k
            focus
              by_cases h0 : t[k].toNat = 0
              focus
                have hF := Lib.hid (HBF.out (.inl ⟨by omega, h0⟩))
                have h0' : ((t[k].toNat : Int) == 0) = true := by rw [beq_iff_eq]; omega
                clear HBF HOK h9 h0
                go_wp2_with fail
                go_ret3
                rw [hF.out]
                exact ⟨rfl, B1.out⟩
              have h0' : ((t[k].toNat : Int) == 0) = false := by rw [beq_eq_false_iff_ne]; omega
              have hOK := HOK.out (by omega)
              have HF := Lib.hid hOK.1
              have HV := Lib.hid hOK.2
              clear hOK HBF HOK h9 h0
              go_wp2_with fail
              clear h0' hd hk0
            rotate_left
            focus
              have hOK := HOK.out (by omega)
              have HF := Lib.hid hOK.1
              have HV := Lib.hid hOK.2
              clear hOK HBF HOK h9
              go_wp2_with fail
              clear hd hk0
            rotate_left
          all_goals
            go_loopw [7, 8] (fun nv iv w2 => ((∃ j : Nat, iv = .int .i64 j ∧ j ≤ k ∧ nv = .int .u64 (hiV s (a + j + 1) (k - j) : Nat)) ∨ (iv = .int .i64 (-1) ∧ nv = .int .u64 (hiV s a (k + 1) : Nat))) ∧ w2 = wr) (fun _ iv _ => (intOf iv + 1).toNat)
            case atStart => exact ⟨.inl ⟨k, rfl, Nat.le_refl _, by rw [Nat.sub_self]; rfl⟩, rfl⟩
            case round =>
              obtain ⟨hh, hw⟩ := hrel
              subst hw
              rcases hh with ⟨j, rfl, hj, rfl⟩ | ⟨rfl, rfl⟩
              · obtain ⟨hjt, hdg⟩ := HTSZ.out j hj
                have hjt' : (j : Int) < (t.size : Int) := by omega
                have hstep : hiV s (a + j) (k - j + 1) = dig s (a + j) + 128 * hiV s (a + j + 1) (k - j) := rfl
                have hle := hiV_le s j a (k - j + 1)
                rw [show j + (k - j + 1) = k + 1 by omega] at hle
                have hV := HV.out
                rw [hdg] at hstep
                have hw1 : IntKind.u64.wrap ((hiV s (a + j + 1) (k - j) : Int) * 128) = ((hiV s (a + j + 1) (k - j) * 128 : Nat) : Int) := by rw [wrap_u64']; omega
                have hw2 : IntKind.u64.wrap (((hiV s (a + j + 1) (k - j) * 128 : Nat) : Int) + ((t[j].toNat : Int) % 128)) = ((hiV s (a + j) (k - j + 1) : Nat) : Int) := by rw [wrap_u64', hstep]; omega
                have hw3 : (IntKind.u64.wrap (t[j].toNat : Int)).tmod 128 = (t[j].toNat : Int) % 128 := by
                  have hc8 := UInt8.toNat_lt t[j]
                  have e : IntKind.u64.wrap (t[j].toNat : Int) = (t[j].toNat : Int) := by rw [wrap_u64']; omega
                  rw [e, Int.tmod_eq_emod_of_nonneg (by omega)]
                obtain ⟨q, hq⟩ : ∃ q : Nat, hiV s (a + j + 1) (k - j) * 128 = q := ⟨_, rfl⟩
                rw [hq] at hw1 hw2
                have HST : Hid (∀ i, j = i + 1 → hiV s (a + i + 1) (k - i) = hiV s (a + j) (k - j + 1)) := by
                  rintro i rfl
                  rw [show a + i + 1 = a + (i + 1) by omega, show k - i = k - (i + 1) + 1 by omega]
                have HS0 : Hid (j = 0 → hiV s a (k + 1) = hiV s (a + j) (k - j + 1)) := by
                  rintro rfl
                  rfl
                clear hstep hle hV hdg hq
                generalize hiV s (a + j) (k - j + 1) = q2 at *
                generalize hiV s (a + j + 1) (k - j) = q1 at *
                go_wp2_with fail
                go_roundw
                case rel =>
                  refine ⟨?_, by first | rfl | trivial⟩
                  rcases j with _ | i
                  · exact .inr ⟨by go_num, by rw [HS0.out rfl]⟩
                  · exact .inl ⟨i, by go_num, by omega, by rw [HST.out i rfl]⟩
                case measure => simp [intOf] <;> omega
              · go_wp2_with fail
                go_ret3
                rw [HF.out]
                exact ⟨by simp, B1.out⟩
      · obtain rfl : k = t.size := by omega
        have hr := next_end hk10 HALL.out (by have := HTE.out; omega)
        have hfin := HN.out 0 0 3 hr.2 (by rw [hr.1]; rfl) hr.1
        have HFIN := Lib.hid hfin
        have hkne : ¬ (t.size : Int) = 10 := by omega
        clear hr hfin
        go_wp2_with fail
        go_ret3
        rw [HFIN.out]
        exact ⟨rfl, B1.out⟩
    · obtain rfl : k = 10 := by omega
      have hr := next_ten HALL.out
      have hfin := HN.out 0 0 4 hr.2 (by rw [hr.1]; rfl) hr.1
      have HFIN := Lib.hid hfin
      clear hr hfin
      go_wp2_with fail
      go_ret3
      rw [HFIN.out]
      exact ⟨rfl, B1.out⟩
end Go.Proofs.YtjflcpkmoamijaaGreatDoor
