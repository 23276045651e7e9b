import Derived.Test.YtjflcpkmoamijaaGreatDoorDev4
import Derived.Test.YtjflcpkmoamijaaGreatDoorRdr3
import Derived.Test.YtjflcpkmoamijaaGreatDoorPut2
import Derived.Test.YtjflcpkmoamijaaGreatDoorBld
namespace Go.Proofs.YtjflcpkmoamijaaGreatDoor
open Go.RowKit
set_option linter.unusedVariables false
set_option linter.unusedSimpArgs false
set_option linter.unnecessarySimpa false

/-! ### The journal: its plain functions -/
def hlf (D : Dev) : Nat := (D.now.length - 1) / 2
def cnt (n : Nat) : Nat := (n + 63) / 64
def fst0 (D : Dev) (ep : Nat) : Nat := if ep % 2 = 0 then 1 else 1 + hlf D

theorem check_nil (w : World) : Calls Tryz.prog 36 #[.pointer none] w fun e w' => e = .returned (.int .i64 1) ∧ w' = w := by
  go_enter Tryz.func36, Tryz.ntmps36
  go_wp2
  go_ret
  exact ⟨rfl, rfl⟩
set_option maxHeartbeats 400000 in
theorem check_any (r : DRef) (D : Dev) (w : World) (h : DevIs w r D) :
    Calls Tryz.prog 36 #[.pointer (some ⟨r.b, 0, none⟩)] w fun e w' => e = .returned (.int .i64 (if D.now.length < 5 then 12 else 0)) ∧ w' = w := by
  by_cases hl : D.now.length < 5
  · have hl' : (D.now.length : Int) < 5 := by omega
    rw [if_pos hl]
    have H := Lib.hid h
    clear h
    go_enter Tryz.func36, Tryz.ntmps36
    go_wp2_with (refine (Blocks_any r D _ H.out).mono ?_; rintro e w2 ⟨rfl, rfl⟩)
    go_ret
    exact ⟨rfl, rfl⟩
  · have hl' : ¬ (D.now.length : Int) < 5 := by omega
    rw [if_neg hl]
    have H := Lib.hid h
    clear h
    go_enter Tryz.func36, Tryz.ntmps36
    go_wp2_with (refine (Blocks_any r D _ H.out).mono ?_; rintro e w2 ⟨rfl, rfl⟩)
    go_ret
    exact ⟨rfl, rfl⟩
theorem w64 {n : Int} (h0 : 0 ≤ n) (h1 : n < 9223372036854775808) : wrap64 n = n := by unfold wrap64; omega
set_option maxHeartbeats 400000 in
theorem half_any (r : DRef) (D : Dev) (w : World) (h : DevIs w r D) :
    Calls Tryz.prog 41 #[.pointer (some ⟨r.b, 0, none⟩)] w fun e w' => e = .returned (.int .i64 (hlf D)) ∧ w' = w := by
  have hp := h.ok.pos
  have ht := h.ok.top
  have e1 : wrap64 ((D.now.length : Int) - 1) = ((D.now.length - 1 : Nat) : Int) := by unfold wrap64; omega
  have e2 : wrap64 (((D.now.length - 1 : Nat) : Int) / 2) = (hlf D : Int) := by unfold wrap64 hlf; omega
  have H := Lib.hid h
  clear h hp ht
  go_enter Tryz.func41, Tryz.ntmps41
  go_wp2_with (refine (Blocks_any r D _ H.out).mono ?_; rintro e w2 ⟨rfl, rfl⟩)
  go_ret
  rw [e2]
  exact ⟨rfl, rfl⟩
theorem half_lt {r : DRef} {D : Dev} {w : World} (h : DevIs w r D) : 2 * hlf D + 1 ≤ D.now.length ∧ hlf D ≤ 32767 := by
  have hp := h.ok.pos
  have ht := h.ok.top
  unfold hlf; omega
set_option maxHeartbeats 400000 in
theorem first_any (r : DRef) (D : Dev) (ep : Nat) (w : World) (h : DevIs w r D) :
    Calls Tryz.prog 43 #[.pointer (some ⟨r.b, 0, none⟩), .int .i64 ep] w fun e w' => e = .returned (.int .i64 (fst0 D ep)) ∧ w' = w := by
  have hh := half_lt h
  have H := Lib.hid h
  clear h
  by_cases he : ep % 2 = 0
  · have e1 : ((ep : Int) % 2 == 0) = true := by simp; omega
    have e3 : (ep : Int).tmod 2 = 0 := by rw [Int.tmod_eq_emod_of_nonneg (by omega)]; omega
    have e4 : (ep : Int) % 2 = 0 := by omega
    have : fst0 D ep = 1 := by simp [fst0, he]
    rw [this]
    clear this
    go_enter Tryz.func43, Tryz.ntmps43
    go_wp2_with fail
    go_ret
    exact ⟨rfl, rfl⟩
  · have e1 : ((ep : Int) % 2 == 0) = false := by simp; omega
    have e3 : (ep : Int).tmod 2 = 1 := by rw [Int.tmod_eq_emod_of_nonneg (by omega)]; omega
    have e4 : (ep : Int) % 2 = 1 := by omega
    have : fst0 D ep = 1 + hlf D := by simp [fst0, he]
    rw [this]
    clear this
    go_enter Tryz.func43, Tryz.ntmps43
    go_wp2_with (refine (half_any r D _ H.out).mono ?_; rintro e w2 ⟨rfl, rfl⟩)
    go_ret
    have : (1 + (hlf D : Int)) = ((1 + hlf D : Nat) : Int) := by omega
    rw [this]
    exact ⟨rfl, rfl⟩
set_option maxHeartbeats 400000 in
set_option maxRecDepth 100000 in
theorem cnt_any (n : Nat) (w : World) (hn : n ≤ 140737488351232) :
    Calls Tryz.prog 42 #[.int .i64 n] w fun e w' => e = .returned (.int .i64 (cnt n)) ∧ w' = w := by
  have e0 : wrap64 ((n : Int) + 64) = ((n + 64 : Nat) : Int) := by unfold wrap64; omega
  have e1 : wrap64 ((n : Int) + 64 - 1) = ((n + 63 : Nat) : Int) := by unfold wrap64; omega
  have e2 : wrap64 (((n : Int) + 63).tdiv 64) = (cnt n : Int) := by rw [Int.tdiv_eq_ediv_of_nonneg (by omega)]; unfold wrap64 cnt; omega
  have HN := Lib.hid hn
  clear hn
  go_enter Tryz.func42, Tryz.ntmps42
  go_wp2_with fail
  go_ret
  rw [e2]
  exact ⟨rfl, rfl⟩
def rootS (ep : Nat) : ByteArray := app ⟨#[77, 65, 80, 74]⟩ (encU ep)
def headS (n : Nat) : ByteArray := app ⟨#[1]⟩ (encU n)
set_option maxHeartbeats 400000 in
set_option maxRecDepth 100000 in
theorem root_any (ep : Nat) (w : World) (hn : ep ≤ 140737488351232) :
    Calls Tryz.prog 38 #[.int .i64 ep] w fun e w' => e = .returned (.string (rootS ep)) ∧ Below w.heap.size w w' := by
  have hz : IntKind.u64.wrap (ep : Int) = ((ep : Nat) : Int) := by rw [wrap_u64']; omega
  have HN := Lib.hid hn
  clear hn
  go_enter Tryz.func38, Tryz.ntmps38
  go_wp2_with (refine (PutUint_any _ ep _ (by have := HN.out; omega) (by decide)).mono ?_; rintro e w2 ⟨rfl, hb⟩)
  go_ret
  exact ⟨rfl, hb⟩
set_option maxHeartbeats 400000 in
set_option maxRecDepth 100000 in
theorem header_any (s : ByteArray) (w : World) (hn : s.size ≤ 140737488351232) :
    Calls Tryz.prog 45 #[.string s] w fun e w' => e = .returned (.string (headS s.size)) ∧ Below w.heap.size w w' := by
  have hz : IntKind.u64.wrap (s.size : Int) = ((s.size : Nat) : Int) := by rw [wrap_u64']; omega
  have HN := Lib.hid hn
  clear hn
  go_enter Tryz.func45, Tryz.ntmps45
  go_wp2_with (refine (PutUint_any _ s.size _ (by have := HN.out; omega) (by decide)).mono ?_; rintro e w2 ⟨rfl, hb⟩)
  go_ret
  exact ⟨rfl, hb⟩
def Dev.format (D : Dev) : Dev := (D.write 1 ⟨#[]⟩).write 0 (rootS 0)
theorem rootS_size (ep : Nat) : (rootS ep).size ≤ 64 := by
  unfold rootS; rw [app_size]; have := encU_len ep
  have : (⟨#[77, 65, 80, 74]⟩ : ByteArray).size = 4 := rfl
  omega
theorem headS_size (n : Nat) : (headS n).size ≤ 64 := by
  unfold headS; rw [app_size]; have := encU_len n
  have : (⟨#[1]⟩ : ByteArray).size = 1 := rfl
  omega
/-- An operation that writes the device: what it returns, and the device behind it. -/
def FPost (r : DRef) (e0 : Int) (D' : Dev) (w : World) (e : Ending) (w' : World) : Prop := e = .returned (.int .i64 e0) ∧ ∃ r', DevIs w' r' D' ∧ DStep w r w' r'
set_option maxHeartbeats 400000 in
set_option maxRecDepth 100000 in
theorem Format_any (r : DRef) (D : Dev) (w : World) (h : DevIs w r D) (hl : D.lim = false) (h5 : 5 ≤ D.now.length) (hlog : D.log.length ≤ 1000000) :
    Calls Tryz.prog 11 #[.pointer (some ⟨r.b, 0, none⟩)] w (FPost r 0 D.format w) := by
  have H := Lib.hid h
  have HLG := Lib.hid hlog
  clear h hlog
  go_enter Tryz.func11, Tryz.ntmps11
  go_wp2_with fail
  refine (check_any r D _ H.out).mono ?_
  rintro e w2 ⟨rfl, rfl⟩
  rw [if_neg (by omega)]
  go_wp2_with fail
  refine (Write_any r D 1 ⟨#[]⟩ _ H.out (by omega) (by decide) (by simp [hl]) (by have := HLG.out; omega)).mono ?_
  rintro e w3 ⟨rfl, r3, h3, k3⟩
  have H3 := Lib.hid h3
  have K3 := Lib.hid k3
  clear h3 k3 H
  go_wp2_with fail
  refine (root_any 0 _ (by omega)).mono ?_
  rintro e w4 ⟨rfl, b4⟩
  have h4 := H3.out.below b4
  go_wp2_with fail
  rw [← K3.out.b]
  refine (Write_any r3 _ 0 (rootS 0) _ h4 (by simp [Dev.write]; omega) (rootS_size 0) (by simp [Dev.write, hl]) (by have := HLG.out; simp [Dev.write]; omega)).mono ?_
  rintro e w5 ⟨rfl, r5, h5, k5⟩
  go_wp2_with fail
  go_ret
  exact ⟨rfl, r5, h5, K3.out.trans ((DStep.of_fr (Fr.of_below b4 _)).trans k5)⟩
end Go.Proofs.YtjflcpkmoamijaaGreatDoor
