import Derived.Test.YtjflcpkmoamijaaGreatDoorSt
namespace Go.Proofs.YtjflcpkmoamijaaGreatDoor
open Go.RowKit
set_option linter.unusedVariables false
set_option linter.unusedSimpArgs false
set_option linter.unnecessarySimpa false

/-! ### The reference's writers -/
theorem app_app (b : ByteArray) (l m : List UInt8) : app (app b l) m = app b (l ++ m) := by
  apply bytes_ext
  rw [app_list, app_list, app_list, List.append_assoc]
theorem app_nil (b : ByteArray) : app b [] = b := by
  apply bytes_ext
  rw [app_list, List.append_nil]
theorem one_byte (w : World) (c : UInt8) : (convert 111 9 (.slice (some ⟨w.heap.size, 0, none⟩) 1 1)).run Tryz.prog (w.alloc (.cells #[.int .u8 c.toNat] 5)) = .ok (.string ⟨#[c]⟩) (w.alloc (.cells #[.int .u8 c.toNat] 5)) := by
  have h : (w.alloc (.cells #[.int .u8 c.toNat] 5)).ownsRow w.heap.size 5 1 (.slice (some ⟨w.heap.size, 0, none⟩) 1 1) [c].length (bvals [c]) :=
    ⟨by simp [bvals], .inr ⟨w.heap.size, 1, _, rfl, Nat.le_refl _, heap_alloc_new w _, by simp, by unfold maxLen; omega, rfl, by simp [bvals]⟩⟩
  exact own_bytes 111 9 5 Tryz.underlying111 Tryz.underlying5 Tryz.underlying9 h
set_option maxHeartbeats 1000000 in
set_option maxRecDepth 100000 in
theorem RPutUint_any (b : ByteArray) (n : Nat) (w : World) (hn : n < 18446744073709551616) (hb : b.size ≤ 140737488351232) :
    Calls Tryz.prog 63 #[.string b, .int .u64 n] w fun e w' => e = .returned (.string (app b (encU n))) ∧ Below w.heap.size w w' := by
  have HN := Lib.hid hn
  clear hn
  go_enter Tryz.func63, Tryz.ntmps63
  go_wp2
  go_loopw [0, 1] (fun sv n1 wr => ∃ (f m : Nat) (pre : List UInt8), sv = .string (app b pre) ∧ n1 = .int .u64 m ∧ f ≤ 9 ∧ Hid (m < 128 ^ (f + 1)) ∧ Hid (m < 18446744073709551616) ∧ Hid (encU n = pre ++ encF f m) ∧ pre.length + f ≤ 9 ∧ Below w.heap.size w wr) (fun _ n1 _ => (intOf n1).toNat)
  case atStart => exact ⟨9, n, [], by rw [app_nil], rfl, by omega, by show n < 128 ^ 10; have := HN.out; omega, HN, rfl, by simp, Below.refl _ _⟩
  case round =>
    obtain ⟨f, m, pre, rfl, rfl, hf, hmf, hm, hE, hpl, hbel⟩ := hrel
    by_cases hlt : m < 128
    · have HB := Lib.hid hbel
      clear hbel
      have e1 : ((UInt8.ofNat m).toNat : Int) = m := by simp; omega
      have hc := one_byte wr (UInt8.ofNat m)
      rw [e1] at hc
      have b1 := HB.out.alloc HB.out.size (.cells #[.int .u8 m] 5)
      have B1 := Lib.hid b1
      have hsz : (app b pre).size ≤ 140737488351252 := by rw [app_size]; omega
      have hE2 : Hid (app b (encU n) = app b pre ++ (⟨#[UInt8.ofNat m]⟩ : ByteArray)) := by
        show _ = _
        rw [hE.out, encF_small hlt, ← app_app]; rfl
      clear b1
      generalize app b pre = sb at *
      go_wp2
      go_ret
      rw [hE2.out]
      exact ⟨rfl, B1.out⟩
    · obtain ⟨f', rfl⟩ : ∃ f', f = f' + 1 := ⟨f - 1, by have := hmf.out; rcases f with _ | f; omega; omega⟩
      have HB := Lib.hid hbel
      clear hbel
      have hge : 128 ≤ m := by omega
      have e1 : ((UInt8.ofNat (m % 128 + 128)).toNat : Int) = 128 + (m : Int) % 128 := by simp; omega
      have hc := one_byte wr (UInt8.ofNat (m % 128 + 128))
      rw [e1] at hc
      have b1 := HB.out.alloc HB.out.size (.cells #[.int .u8 (128 + (m : Int) % 128)] 5)
      have B1 := Lib.hid b1
      have hsz : (app b pre).size ≤ 140737488351252 := by rw [app_size]; omega
      have hE2 : Hid (app b (pre ++ [UInt8.ofNat (m % 128 + 128)]) = app b pre ++ (⟨#[UInt8.ofNat (m % 128 + 128)]⟩ : ByteArray)) := by
        show _ = _
        rw [← app_app]; rfl
      have HE : Hid (encU n = (pre ++ [UInt8.ofNat (m % 128 + 128)]) ++ encF f' (m / 128)) := by show _ = _; rw [hE.out, encF_big (by omega)]; simp
      clear b1 e1
      obtain ⟨c8, hc8⟩ : ∃ c8, UInt8.ofNat (m % 128 + 128) = c8 := ⟨_, rfl⟩
      rw [hc8] at hc hE2 HE
      have hw : IntKind.u64.wrap ((m : Int) / 128) = ((m / 128 : Nat) : Int) := by rw [wrap_u64']; have := hm.out; omega
      clear hc8
      go_wp2
      go_roundw
      case rel => exact ⟨f', m / 128, pre ++ [c8], by rw [hE2.out], by go_num, by omega, by have := hmf.out; show _ < _; rw [Nat.div_lt_iff_lt_mul (by omega)]; rw [Nat.pow_succ] at this; exact this, by have := hm.out; show _ < _; omega, HE, by simp; omega, B1.out⟩
      case measure => simp [intOf]; omega
set_option maxHeartbeats 1000000 in
set_option maxRecDepth 100000 in
theorem RPutInt_any (b : ByteArray) (n : Int) (w : World) (hn : InInt n) (hb : b.size ≤ 140737488351232) :
    Calls Tryz.prog 64 #[.string b, .int .i64 n] w fun e w' => e = .returned (.string (putI b n)) ∧ Below w.heap.size w w' := by
  have HL := Lib.hid (zz_lt hn.1 hn.2)
  by_cases h0 : n < 0
  · have hz : IntKind.u64.wrap (IntKind.u64.wrap (IntKind.u64.wrap (-(n + 1)) * 2) + 1) = ((zz n : Nat) : Int) := by
      have := hn.1
      rw [wrap_u64', wrap_u64', wrap_u64']
      have : zz n = (-2 * n - 1).toNat := if_pos h0
      omega
    have h1 := hn.1
    have e1 : -(n + 1) * 2 + 1 = ((zz n : Nat) : Int) := by
      have : zz n = (-2 * n - 1).toNat := if_pos h0
      omega
    have E1 := Lib.hid e1
    clear e1
    go_enter Tryz.func64, Tryz.ntmps64
    go_wp2_with fail
    rw [E1.out]
    refine (RPutUint_any b (zz n) w HL.out hb).mono ?_
    rintro e w2 ⟨rfl, b2⟩
    have B2 := Lib.hid b2
    clear b2
    go_wp2_with fail
    go_ret
    exact ⟨rfl, B2.out⟩
  · have h1 := hn.2
    have e1 : n * 2 = ((zz n : Nat) : Int) := by
      have : zz n = (2 * n).toNat := if_neg h0
      omega
    have E1 := Lib.hid e1
    have h0' : 0 ≤ n := by omega
    clear e1
    go_enter Tryz.func64, Tryz.ntmps64
    go_wp2_with fail
    rw [E1.out]
    refine (RPutUint_any b (zz n) w HL.out hb).mono ?_
    rintro e w2 ⟨rfl, b2⟩
    have B2 := Lib.hid b2
    clear b2
    go_wp2_with fail
    go_ret
    exact ⟨rfl, B2.out⟩
set_option maxHeartbeats 1000000 in
set_option maxRecDepth 100000 in
theorem RPutText_any (b s : ByteArray) (w : World) (hs : s.size ≤ 140737488351232) (hb : b.size ≤ 140737488351232) :
    Calls Tryz.prog 65 #[.string b, .string s] w fun e w' => e = .returned (.string (putT b s)) ∧ Below w.heap.size w w' := by
  have hx : (app b (encU s.size)).size ≤ b.size + 10 := by rw [app_size]; have := encU_len s.size; omega
  have HX := Lib.hid hx
  have HP : Hid (putT b s = app b (encU s.size) ++ s) := rfl
  clear hx
  go_enter Tryz.func65, Tryz.ntmps65
  go_wp2_with fail
  refine (RPutUint_any b s.size w (by omega) hb).mono ?_
  rintro e w2 ⟨rfl, b2⟩
  have B2 := Lib.hid b2
  have hx := HX.out
  clear b2
  generalize app b (encU s.size) = q at *
  go_wp2_with fail
  go_ret
  rw [HP.out]
  exact ⟨rfl, B2.out⟩
end Go.Proofs.YtjflcpkmoamijaaGreatDoor
