import Derived.Test.YtjflcpkmoamijaaGreatDoorShelf
import Derived.Test.YtjflcpkmoamijaaGreatDoorGa
import Derived.Lib.AppendStr
import Derived.Test.YtjflcpkmoamijaaGreatDoorGb
import Derived.Lib.TrimByte
import Derived.WalkLawsBesides
import Derived.Deep.LoopGhost
import Derived.BigQuiet
import Derived.Recover
namespace Go.Proofs.YtjflcpkmoamijaaGreatDoor
open Go.RowKit
set_option linter.unusedVariables false
set_option linter.unusedSimpArgs false
set_option linter.unnecessarySimpa false

theorem size_bld : (Tryz.prog.info? 116).map (·.size) = some 2 := by kernel_rfl
theorem lies_bld : liesAt Tryz.prog Tryz.prog.depth 116 (2 / Tryz.prog.cellsOf 116) 0 116 1 = true := by kernel_rfl

set_option maxHeartbeats 400000 in
set_option maxRecDepth 100000 in
theorem copyCheck_used (b : Nat) (w : World) (h0 : w.cell? ⟨b, 0, none⟩ = some (.pointer (some ⟨b, 0, none⟩))) :
    Calls Tryz.prog 106 #[.pointer (some ⟨b, 0, none⟩)] w fun e w' => e = .returned (.tuple #[]) ∧ w' = w := by
  obtain ⟨j, hj, _⟩ := Option.map_eq_some_iff.1 size_bld
  go_enter Tryz.func106, Tryz.ntmps106
  go_wp2_with fail
  rw [Lib.run_neq_ptr_same w _ Tryz.underlying114 hj]
  go_wp2_with fail
  go_end0
  exact ⟨rfl, rfl⟩

set_option maxHeartbeats 400000 in
set_option maxRecDepth 100000 in
theorem copyCheck_fresh (b : Nat) (w : World) (h0 : w.cell? ⟨b, 0, none⟩ = some (.pointer none)) (hsh : w.shape? b = some (116, 2)) (hfz : w.frozen? ⟨b, 0, none⟩ = false) :
    Calls Tryz.prog 106 #[.pointer (some ⟨b, 0, none⟩)] w fun e w' => e = .returned (.tuple #[]) ∧ w' = w.setCell ⟨b, 0, none⟩ (.pointer (some ⟨b, 0, none⟩)) := by
  obtain ⟨j, hj, hjs⟩ := Option.map_eq_some_iff.1 size_bld
  go_enter Tryz.func106, Tryz.ntmps106
  go_wp2_with fail
  rw [Lib.run_to_unsafe w ⟨b, 0, none⟩ Tryz.underlying114 Tryz.underlying182 hj (by rw [hjs]; decide) hsh (Nat.zero_lt_succ 1)]
  simp only [Result.andThen]
  rw [Oper.upon_value]
  go_wp2_with fail
  rw [run_callFunc_extern Tryz.func136 (by kernel_rfl) (by kernel_rfl) (by kernel_rfl) (e := Extern.AbiNoEscape.same) (by kernel_rfl)]
  rw [Lib.run_noEscape]
  simp only [Result.andThen]
  rw [Oper.upon_value]
  go_wp2_with fail
  rw [Lib.run_from_unsafe w ⟨b, 0, none⟩ Tryz.underlying182 Tryz.underlying114 hj hsh lies_bld]
  simp only [Result.andThen]
  rw [Oper.upon_value]
  go_wp2_with fail
  go_end0
  exact ⟨rfl, rfl⟩

theorem copyCheck_any (B b : Nat) (bs : List Value) (w : World) (h : Lib.IsBuilder 116 5 B b bs w) :
    Calls Tryz.prog 106 #[.pointer (some ⟨b, 0, none⟩)] w fun e w' => e = .returned (.tuple #[]) ∧ (Lib.BuilderAt 116 5 B b (.pointer (some ⟨b, 0, none⟩)) bs w' ∧ Below B w w') := by
  rcases h with h | h
  · refine (copyCheck_fresh b w h.cell0 h.shape h.frozen0).mono ?_
    rintro e w' ⟨rfl, rfl⟩
    exact ⟨rfl, h.used _, (Below.refl B w).setCell (p := ⟨b, 0, none⟩) h.1 _⟩
  · refine (copyCheck_used b w h.cell0).mono ?_
    rintro e w' ⟨rfl, rfl⟩
    exact ⟨rfl, h, Below.refl B _⟩

set_option maxHeartbeats 400000 in
set_option maxRecDepth 100000 in
theorem WriteString_any (B b : Nat) (bs : List Value) (s : ByteArray) (w : World) (h : Lib.IsBuilder 116 5 B b bs w) (hlen : bs.length + s.size ≤ 140737488355328) (hBw : B ≤ w.heap.size) :
    Calls Tryz.prog 72 #[.pointer (some ⟨b, 0, none⟩), .string s] w fun e w' => e = .returned (.tuple #[.int .i64 s.size, .nilIface]) ∧ (Lib.BuilderAt 116 5 B b (.pointer (some ⟨b, 0, none⟩)) (bs ++ Lib.strCells s) w' ∧ Below B w w') := by
  obtain ⟨i0, hi0, hz0, hz1, hz2⟩ := info_parts info_u8
  go_enter Tryz.func72, Tryz.ntmps72
  go_wp2_with fail
  refine (copyCheck_any B b bs _ h).mono ?_
  rintro e w2 ⟨rfl, ⟨hB, v, hb, hown, hne⟩, hbel⟩
  have c1 : w2.cell? ⟨b, 1, none⟩ = some v := cell_of_row w2 _ 1 _ _ _ hb
  have f1 : w2.frozen? ⟨b, 1, none⟩ = false := frozen_of_row w2 _ 1 _ _ hb
  have lb := lt_of_heap hb
  have HO := Lib.hid hown
  have HB := Lib.hid hbel
  have HH := Lib.hid hb
  have HN := Lib.hid hne
  clear hown hbel hb hne h
  go_wp2_with (
    at_builtin
    refine Lib.wpList_append_own_string w2 rfl _ _ 111 9 rfl B 5 i0 Tryz.underlying111 Tryz.underlying9 hi0 hz0 hz1 hz2 v bs.length bs (by rfl) HO.out s rfl (by unfold maxLen; omega) hlen (Nat.le_trans hBw HB.out.size) ?_
    intro v3 w3 hown3 hg3 _
    have HO3 := Lib.hid hown3; have HG3 := Lib.hid hg3
    clear hown3 hg3
    have hb2 := (HG3.out.block b lb (fun e => HN.out e.symm)).trans HH.out
    have d1 : w3.cell? ⟨b, 1, none⟩ = some v := cell_of_row w3 _ 1 _ _ _ hb2
    have e1 : w3.frozen? ⟨b, 1, none⟩ = false := frozen_of_row w3 _ 1 _ _ hb2
    have HH2 := Lib.hid hb2
    clear hb2
    obtain ⟨ao, n', cap, rfl⟩ : ∃ ao n' cap, v3 = .slice ao n' cap := by
      rcases HO3.out.2 with ⟨hv, _⟩ | ⟨g, cap, cur, hv, _⟩
      · exact ⟨_, _, _, hv⟩
      · exact ⟨_, _, _, hv⟩)
  go_ret2
  refine ⟨rfl, Lib.BuilderAt.put (T := 116) (e := 5) hB HH2.out (bs' := bs ++ Lib.strCells s) (by simpa [Lib.strCells_length] using HO3.out) (by decide), ?_⟩
  exact (HB.out.grown HG3.out (Nat.le_trans hBw HB.out.size) (fun k hk => (HO.out.lt k hk).1)).setCell (p := ⟨b, 1, none⟩) hB _
end Go.Proofs.YtjflcpkmoamijaaGreatDoor
namespace Go.Proofs.YtjflcpkmoamijaaGreatDoor
open Go.RowKit
set_option linter.unusedVariables false
set_option linter.unusedSimpArgs false
set_option linter.unnecessarySimpa false

/-! ### The journal: its plain functions -/
def hlf (D : Dev) : Nat := (D.now.length - 1) / 2
def cnt (n : Nat) : Nat := (n + 63) / 64
def fst0 (D : Dev) (ep : Nat) : Nat := if ep % 2 = 0 then 1 else 1 + hlf D

theorem check_nil (w : World) : Calls Tryz.prog 36 #[.pointer none] w fun e w' => e = .returned (.int .i64 1) ∧ w' = w := by
  go_enter Tryz.func36, Tryz.ntmps36
  go_wp2
  go_ret
  exact ⟨rfl, rfl⟩
set_option maxHeartbeats 400000 in
theorem check_any (r : DRef) (D : Dev) (w : World) (h : DevIs w r D) :
    Calls Tryz.prog 36 #[.pointer (some ⟨r.b, 0, none⟩)] w fun e w' => e = .returned (.int .i64 (if D.now.length < 5 then 12 else 0)) ∧ w' = w := by
  by_cases hl : D.now.length < 5
  · have hl' : (D.now.length : Int) < 5 := by omega
    rw [if_pos hl]
    have H := Lib.hid h
    clear h
    go_enter Tryz.func36, Tryz.ntmps36
    go_wp2_with (refine (Blocks_any r D _ H.out).mono ?_; rintro e w2 ⟨rfl, rfl⟩)
    go_ret
    exact ⟨rfl, rfl⟩
  · have hl' : ¬ (D.now.length : Int) < 5 := by omega
    rw [if_neg hl]
    have H := Lib.hid h
    clear h
    go_enter Tryz.func36, Tryz.ntmps36
    go_wp2_with (refine (Blocks_any r D _ H.out).mono ?_; rintro e w2 ⟨rfl, rfl⟩)
    go_ret
    exact ⟨rfl, rfl⟩
theorem w64 {n : Int} (h0 : 0 ≤ n) (h1 : n < 9223372036854775808) : wrap64 n = n := by unfold wrap64; omega
set_option maxHeartbeats 400000 in
theorem half_any (r : DRef) (D : Dev) (w : World) (h : DevIs w r D) :
    Calls Tryz.prog 41 #[.pointer (some ⟨r.b, 0, none⟩)] w fun e w' => e = .returned (.int .i64 (hlf D)) ∧ w' = w := by
  have hp := h.ok.pos
  have ht := h.ok.top
  have e1 : wrap64 ((D.now.length : Int) - 1) = ((D.now.length - 1 : Nat) : Int) := by unfold wrap64; omega
  have e2 : wrap64 (((D.now.length - 1 : Nat) : Int) / 2) = (hlf D : Int) := by unfold wrap64 hlf; omega
  have H := Lib.hid h
  clear h hp ht
  go_enter Tryz.func41, Tryz.ntmps41
  go_wp2_with (refine (Blocks_any r D _ H.out).mono ?_; rintro e w2 ⟨rfl, rfl⟩)
  go_ret
  rw [e2]
  exact ⟨rfl, rfl⟩
theorem half_lt {r : DRef} {D : Dev} {w : World} (h : DevIs w r D) : 2 * hlf D + 1 ≤ D.now.length ∧ hlf D ≤ 32767 := by
  have hp := h.ok.pos
  have ht := h.ok.top
  unfold hlf; omega
set_option maxHeartbeats 400000 in
theorem first_any (r : DRef) (D : Dev) (ep : Nat) (w : World) (h : DevIs w r D) :
    Calls Tryz.prog 43 #[.pointer (some ⟨r.b, 0, none⟩), .int .i64 ep] w fun e w' => e = .returned (.int .i64 (fst0 D ep)) ∧ w' = w := by
  have hh := half_lt h
  have H := Lib.hid h
  clear h
  by_cases he : ep % 2 = 0
  · have e1 : ((ep : Int) % 2 == 0) = true := by simp; omega
    have e3 : (ep : Int).tmod 2 = 0 := by rw [Int.tmod_eq_emod_of_nonneg (by omega)]; omega
    have e4 : (ep : Int) % 2 = 0 := by omega
    have : fst0 D ep = 1 := by simp [fst0, he]
    rw [this]
    clear this
    go_enter Tryz.func43, Tryz.ntmps43
    go_wp2_with fail
    go_ret
    exact ⟨rfl, rfl⟩
  · have e1 : ((ep : Int) % 2 == 0) = false := by simp; omega
    have e3 : (ep : Int).tmod 2 = 1 := by rw [Int.tmod_eq_emod_of_nonneg (by omega)]; omega
    have e4 : (ep : Int) % 2 = 1 := by omega
    have : fst0 D ep = 1 + hlf D := by simp [fst0, he]
    rw [this]
    clear this
    go_enter Tryz.func43, Tryz.ntmps43
    go_wp2_with (refine (half_any r D _ H.out).mono ?_; rintro e w2 ⟨rfl, rfl⟩)
    go_ret
    have : (1 + (hlf D : Int)) = ((1 + hlf D : Nat) : Int) := by omega
    rw [this]
    exact ⟨rfl, rfl⟩
set_option maxHeartbeats 400000 in
set_option maxRecDepth 100000 in
theorem cnt_any (n : Nat) (w : World) (hn : n ≤ 140737488351232) :
    Calls Tryz.prog 42 #[.int .i64 n] w fun e w' => e = .returned (.int .i64 (cnt n)) ∧ w' = w := by
  have e0 : wrap64 ((n : Int) + 64) = ((n + 64 : Nat) : Int) := by unfold wrap64; omega
  have e1 : wrap64 ((n : Int) + 64 - 1) = ((n + 63 : Nat) : Int) := by unfold wrap64; omega
  have e2 : wrap64 (((n : Int) + 63).tdiv 64) = (cnt n : Int) := by rw [Int.tdiv_eq_ediv_of_nonneg (by omega)]; unfold wrap64 cnt; omega
  have HN := Lib.hid hn
  clear hn
  go_enter Tryz.func42, Tryz.ntmps42
  go_wp2_with fail
  go_ret
  rw [e2]
  exact ⟨rfl, rfl⟩
def rootS (ep : Nat) : ByteArray := app ⟨#[77, 65, 80, 74]⟩ (encU ep)
def headS (n : Nat) : ByteArray := app ⟨#[1]⟩ (encU n)
set_option maxHeartbeats 400000 in
set_option maxRecDepth 100000 in
theorem root_any (ep : Nat) (w : World) (hn : ep ≤ 140737488351232) :
    Calls Tryz.prog 38 #[.int .i64 ep] w fun e w' => e = .returned (.string (rootS ep)) ∧ Below w.heap.size w w' := by
  have hz : IntKind.u64.wrap (ep : Int) = ((ep : Nat) : Int) := by rw [wrap_u64']; omega
  have HN := Lib.hid hn
  clear hn
  go_enter Tryz.func38, Tryz.ntmps38
  go_wp2_with (refine (PutUint_any _ ep _ (by have := HN.out; omega) (by decide)).mono ?_; rintro e w2 ⟨rfl, hb⟩)
  go_ret
  exact ⟨rfl, hb⟩
set_option maxHeartbeats 400000 in
set_option maxRecDepth 100000 in
theorem header_any (s : ByteArray) (w : World) (hn : s.size ≤ 140737488351232) :
    Calls Tryz.prog 45 #[.string s] w fun e w' => e = .returned (.string (headS s.size)) ∧ Below w.heap.size w w' := by
  have hz : IntKind.u64.wrap (s.size : Int) = ((s.size : Nat) : Int) := by rw [wrap_u64']; omega
  have HN := Lib.hid hn
  clear hn
  go_enter Tryz.func45, Tryz.ntmps45
  go_wp2_with (refine (PutUint_any _ s.size _ (by have := HN.out; omega) (by decide)).mono ?_; rintro e w2 ⟨rfl, hb⟩)
  go_ret
  exact ⟨rfl, hb⟩
def Dev.format (D : Dev) : Dev := (D.write 1 ⟨#[]⟩).write 0 (rootS 0)
theorem rootS_size (ep : Nat) : (rootS ep).size ≤ 64 := by
  unfold rootS; rw [app_size]; have := encU_len ep
  have : (⟨#[77, 65, 80, 74]⟩ : ByteArray).size = 4 := rfl
  omega
theorem headS_size (n : Nat) : (headS n).size ≤ 64 := by
  unfold headS; rw [app_size]; have := encU_len n
  have : (⟨#[1]⟩ : ByteArray).size = 1 := rfl
  omega
/-- An operation that writes the device: what it returns, and the device behind it. -/
def FPost (r : DRef) (e0 : Int) (D' : Dev) (w : World) (e : Ending) (w' : World) : Prop := e = .returned (.int .i64 e0) ∧ ∃ r', DevIs w' r' D' ∧ DStep w r w' r'
set_option maxHeartbeats 400000 in
set_option maxRecDepth 100000 in
theorem Format_any (r : DRef) (D : Dev) (w : World) (h : DevIs w r D) (hl : D.lim = false) (h5 : 5 ≤ D.now.length) (hlog : D.log.length ≤ 1000000) :
    Calls Tryz.prog 11 #[.pointer (some ⟨r.b, 0, none⟩)] w (FPost r 0 D.format w) := by
  have H := Lib.hid h
  have HLG := Lib.hid hlog
  clear h hlog
  go_enter Tryz.func11, Tryz.ntmps11
  go_wp2_with fail
  refine (check_any r D _ H.out).mono ?_
  rintro e w2 ⟨rfl, rfl⟩
  rw [if_neg (by omega)]
  go_wp2_with fail
  refine (Write_any r D 1 ⟨#[]⟩ _ H.out (by omega) (by decide) (by simp [hl]) (by have := HLG.out; omega)).mono ?_
  rintro e w3 ⟨rfl, r3, h3, k3⟩
  have H3 := Lib.hid h3
  have K3 := Lib.hid k3
  clear h3 k3 H
  go_wp2_with fail
  refine (root_any 0 _ (by omega)).mono ?_
  rintro e w4 ⟨rfl, b4⟩
  have h4 := H3.out.below b4
  go_wp2_with fail
  rw [← K3.out.b]
  refine (Write_any r3 _ 0 (rootS 0) _ h4 (by simp [Dev.write]; omega) (rootS_size 0) (by simp [Dev.write, hl]) (by have := HLG.out; simp [Dev.write]; omega)).mono ?_
  rintro e w5 ⟨rfl, r5, h5, k5⟩
  go_wp2_with fail
  go_ret
  exact ⟨rfl, r5, h5, K3.out.trans ((DStep.of_fr (Fr.of_below b4 _)).trans k5)⟩
end Go.Proofs.YtjflcpkmoamijaaGreatDoor
namespace Go.Proofs.YtjflcpkmoamijaaGreatDoor
open Go.RowKit
set_option linter.unusedVariables false
set_option linter.unusedSimpArgs false
set_option linter.unnecessarySimpa false

theorem below_drewN {B : Nat} {w w' : World} (h : Below B w w') (n : Nat) : Below B w (w'.drewN n) := ⟨h.os, h.tape, h.output, h.size, h.block⟩
def numJ (s : ByteArray) (most : Nat) : Option Nat :=
  if (uintM s 0 0).2.2 = 0 ∧ (uintM s 0 0).1 ≤ most ∧ Lib.trimB (s.extract (uintM s 0 0).2.1 s.size).data.toList 0 = [] then some (uintM s 0 0).1.toNat else none
def badForm : List PanicEntry := [{ v := .iface 75 (.agg #[]), recovered := false }]
def NumPost (o : Option Nat) (w : World) (e : Ending) (w' : World) : Prop :=
  (match o with | some n => e = .returned (.int .i64 n) | none => e = .panicked badForm) ∧ Below w.heap.size w w'
theorem uintM_range (s : ByteArray) (a : Nat) : InU64 (uintM s a 0).1 := by
  unfold uintM
  have := uintR_range s a
  split
  · split
    · exact this
    · exact ⟨Int.le_refl _, (by decide : (0:Int) < 18446744073709551616)⟩
  · exact ⟨Int.le_refl _, (by decide : (0:Int) < 18446744073709551616)⟩
set_option maxHeartbeats 1000000 in
set_option maxRecDepth 100000 in
theorem number_any (s : ByteArray) (most : Nat) (w : World) (hs : s.size ≤ 140737488351232) (hm : most ≤ 140737488351232) :
    Calls Tryz.prog 71 #[.string s, .int .i64 most] w (NumPost (numJ s most) w) := by
  have hz : IntKind.u64.wrap (most : Int) = ((most : Nat) : Int) := by rw [wrap_u64']; omega
  have hr := uintM_range s 0
  have hle := uintM_le (err := 0) (Nat.zero_le s.size)
  have hnum : numJ s most = if (uintM s 0 0).2.2 = 0 ∧ (uintM s 0 0).1 ≤ most ∧ Lib.trimB (s.extract (uintM s 0 0).2.1 s.size).data.toList 0 = [] then some (uintM s 0 0).1.toNat else none := rfl
  generalize numJ s most = o at *
  have HU : ∀ (g : Nat) (w : World), IsRd w g s 0 0 → Calls Tryz.prog 103 #[.pointer (some ⟨g, 0, none⟩)] w (RdPost g s (uintM s 0 0).2 w (.int .u64 (uintM s 0 0).1)) := fun g w h => Uint_any g s 0 0 w hs (Nat.zero_le _) h
  generalize uintM s 0 0 = x at *
  obtain ⟨n, a, er⟩ := x
  simp only at hr hle hnum HU
  have HS := Lib.hid hs
  have HM := Lib.hid hm
  have HR := Lib.hid hr
  have HN := Lib.hid hnum
  clear hs hm hr hnum
  go_enter Tryz.func71, Tryz.ntmps71
  go_wp2_with fail
  refine (Read_any s _).mono ?_
  rintro e w2 ⟨rfl, r2, b2⟩
  have R2 := Lib.hid r2
  have B2 := Lib.hid b2
  clear r2 b2
  go_wp2_with fail
  refine (HU _ _ R2.out).mono ?_
  rintro e w3 ⟨rfl, r3, f3⟩
  have b3 : Below w.heap.size w w3 := B2.out.trans (f3.below B2.out.size (by rintro i rfl; omega))
  have R3 := Lib.hid r3
  have B3 := Lib.hid b3
  clear r3 f3 b3 R2 B2 w2
  have hE := Err_any _ _ _ _ _ R3.out
  by_cases h1 : er = 0
  · subst h1
    by_cases h2 : n ≤ most
    · have g2 : ¬ ((most : Int) < n) := by omega
      have g3 : wrap64 ((s.size : Int) - ((s.size : Int) - (a : Int))) = (a : Int) := by have := HS.out; unfold wrap64; omega
      by_cases h3 : Lib.trimB (s.extract a s.size).data.toList 0 = []
      · have ho : o = some n.toNat := by rw [HN.out, if_pos ⟨rfl, h2, h3⟩]
        subst ho
        clear HN
        have hn : wrap64 n = (n.toNat : Int) := by have := HR.out.1; have := HM.out; unfold wrap64; omega
        have HT := fun w => Tryz.strings_Trim_one (s.extract a s.size) 0 (by decide) w (by have := HS.out; simp only [ByteArray.size_extract]; omega)
        rw [h3] at HT
        go_wp2_with (first
          | (refine hE.mono ?_; rintro e w4 ⟨rfl, rfl⟩)
          | (refine (Left_any _ _ _ _ _ HS.out hle R3.out).mono ?_; rintro e w5 ⟨rfl, k5, rfl⟩)
          | (refine (HT _).mono ?_; rintro e w6 ⟨rfl, hw6⟩; have b6 : Below w.heap.size w w6 := (by rcases hw6 with rfl | rfl; exact below_drewN B3.out _; exact (below_drewN B3.out _).drew); have B6 := Lib.hid b6; clear b6 hw6))
        go_ret
        rw [hn]
        exact ⟨rfl, B6.out⟩
      · have ho : o = none := by rw [HN.out, if_neg (fun h => h3 h.2.2)]
        subst ho
        clear HN
        generalize hl : Lib.trimB (s.extract a s.size).data.toList 0 = l at h3
        have hle0 : l.isEmpty = false := by simpa using h3
        have HT := fun w => Tryz.strings_Trim_one (s.extract a s.size) 0 (by decide) w (by have := HS.out; simp only [ByteArray.size_extract]; omega)
        rw [hl] at HT
        go_wp2_with (first
          | (refine hE.mono ?_; rintro e w4 ⟨rfl, rfl⟩)
          | (refine (Left_any _ _ _ _ _ HS.out hle R3.out).mono ?_; rintro e w5 ⟨rfl, k5, rfl⟩)
          | (refine (HT _).mono ?_; rintro e w6 ⟨rfl, hw6⟩; have b6 : Below w.heap.size w w6 := (by rcases hw6 with rfl | rfl; exact below_drewN B3.out _; exact (below_drewN B3.out _).drew); have B6 := Lib.hid b6; clear b6 hw6))
        exact ⟨rfl, rfl, B6.out⟩
    · have g2 : ((most : Int) < n) := by omega
      have ho : o = none := by rw [HN.out, if_neg (fun h => h2 h.2.1)]
      subst ho
      clear HN
      go_wp2_with (refine hE.mono ?_; rintro e w4 ⟨rfl, rfl⟩)
      exact ⟨rfl, rfl, B3.out⟩
  · have ho : o = none := by rw [HN.out, if_neg (fun h => h1 h.1)]
    subst ho
    clear HN
    go_wp2_with (refine hE.mono ?_; rintro e w4 ⟨rfl, rfl⟩)
    exact ⟨rfl, rfl, B3.out⟩
end Go.Proofs.YtjflcpkmoamijaaGreatDoor
namespace Go.Proofs.YtjflcpkmoamijaaGreatDoor
open Go.RowKit
set_option linter.unusedVariables false
set_option linter.unusedSimpArgs false
set_option linter.unnecessarySimpa false

theorem wp_cl {P : Program} {o : Oper} {a : Act} {w : World} {K : Act → World → Prop} {Q : Exit → Act → World → Prop} {N : Option Tmp} {f : Nat} {args : Array Operand} {ts : Array TypeId} {vs : Array Value}
    (ho : o.op = .call { callee := .value (.func f), args := args, argTypes := ts }) (hN : o.dst = N) (hx : args.map a.eval = vs) (he : (callFunc f vs).run P w = .ok (.enter f vs) w)
    (hc : Calls P f vs w fun e w'' => ∃ v, e = .returned v ∧ K (a.put N v) w'') : o.wp P a w K Q := by
  subst hN
  have h : (execOp a.eval o).run P w = .ok (.enter f vs) w := by
    unfold execOp
    simp [ho, resolve, invoke, hx, he, Act.eval, Deferred.ofValue]
  unfold Oper.wp
  rw [h, Oper.upon_enter]
  refine hc.mono ?_
  rintro e w'' ⟨v, rfl, hk⟩
  exact hk

theorem info_str : (Tryz.prog.info? 9).map (fun i => (i.zero, i.size, i.bytes)) = some (some (.string ⟨#[]⟩), 1, 16) := by kernel_rfl
theorem run_bs_str (w : World) (s : ByteArray) :
    (Instr.buildSlice 22 1 #[(0, .string s)]).run Tryz.prog w = .ok (.slice (some ⟨w.heap.size, 0, none⟩) 1 1) (w.alloc (.cells #[.string s] 9)) := by
  obtain ⟨i0, hi, hzz⟩ := Option.map_eq_some_iff.1 info_str
  simp only [Prod.mk.injEq] at hzz
  obtain ⟨hz0, hz1, hz2⟩ := hzz
  simp only [Instr.buildSlice, Sem.run_bind, run_underlying Tryz.underlying22, Result.andThen_ok, sizeOf, typeInfo, zeroValue, hi, hz0, hz1, Sem.run_pure]
  simp [Value.cells, hz1, hz0, hi, Sem.run_bind, typeInfo, Instr.fill, newRow]
  have e : Array.range 1 = #[0] := by decide
  simp [e]
structure JIs (w : World) (B jb db : Nat) (vr : Value) (ep u : Nat) (recs : List ByteArray) : Prop where
  hb : w.heap[jb]? = some (.cells #[.pointer (some ⟨db, 0, none⟩), .int .i64 ep, .int .i64 u, vr] 77 (0, 0))
  hr : w.ownsRow B 9 1 vr recs.length (recs.map .string)
theorem JIs.c0 {w : World} {B jb db : Nat} {vr : Value} {ep u : Nat} {recs : List ByteArray} (h : JIs w B jb db vr ep u recs) : w.cell? ⟨jb, 0, none⟩ = some (.pointer (some ⟨db, 0, none⟩)) := cell_of_row w _ 0 _ _ _ h.hb
theorem JIs.c1 {w : World} {B jb db : Nat} {vr : Value} {ep u : Nat} {recs : List ByteArray} (h : JIs w B jb db vr ep u recs) : w.cell? ⟨jb, 1, none⟩ = some (.int .i64 ep) := cell_of_row w _ 1 _ _ _ h.hb
theorem JIs.c2 {w : World} {B jb db : Nat} {vr : Value} {ep u : Nat} {recs : List ByteArray} (h : JIs w B jb db vr ep u recs) : w.cell? ⟨jb, 2, none⟩ = some (.int .i64 u) := cell_of_row w _ 2 _ _ _ h.hb
theorem JIs.c3 {w : World} {B jb db : Nat} {vr : Value} {ep u : Nat} {recs : List ByteArray} (h : JIs w B jb db vr ep u recs) : w.cell? ⟨jb, 3, none⟩ = some vr := cell_of_row w _ 3 _ _ _ h.hb
theorem JIs.fz {w : World} {B jb db : Nat} {vr : Value} {ep u : Nat} {recs : List ByteArray} (h : JIs w B jb db vr ep u recs) (i : Nat) : w.frozen? ⟨jb, i, none⟩ = false := frozen_of_row w _ i _ _ h.hb
theorem JIs.lt {w : World} {B jb db : Nat} {vr : Value} {ep u : Nat} {recs : List ByteArray} (h : JIs w B jb db vr ep u recs) : jb < w.heap.size := lt_of_heap h.hb
def jfoot (jb : Nat) (vr : Value) (k : Nat) : Prop := k = jb ∨ vr.ownBlock = some k
theorem JIs.fr {w w' : World} {B jb db : Nat} {vr : Value} {ep u : Nat} {recs : List ByteArray} {S : Nat → Prop} (h : JIs w B jb db vr ep u recs) (k : Fr w w' S) (hn : ∀ i, jfoot jb vr i → ¬ S i) : JIs w' B jb db vr ep u recs :=
  ⟨k.heap h.hb (hn _ (.inl rfl)), k.owns h.hr (fun i hi => hn _ (.inr hi))⟩
theorem JIs.drewN {w : World} {B jb db : Nat} {vr : Value} {ep u : Nat} {recs : List ByteArray} (h : JIs w B jb db vr ep u recs) (n : Nat) : JIs (w.drewN n) B jb db vr ep u recs := ⟨h.hb, h.hr⟩
/-- The journal's blocks are no blocks of a device. -/
theorem jfoot_dev {w : World} {B jb db : Nat} {vr : Value} {ep u : Nat} {recs : List ByteArray} {r : DRef} {D : Dev} (h : JIs w B jb db vr ep u recs) (d : DevIs w r D) {i : Nat} (hi : jfoot jb vr i) : ¬ r.foot i := by
  intro hf
  rcases hi with rfl | hi
  · rcases hf with rfl | rfl | rfl | hf
    · exact ne_of_elem h.hb d.hb (by decide) rfl
    · exact ne_of_elem h.hb d.hf (by decide) rfl
    · exact ne_of_elem h.hb d.hn (by decide) rfl
    · exact own_ne d.hl h.hb (by decide) hf rfl
  · rcases hf with rfl | rfl | rfl | hf
    · exact own_ne h.hr d.hb (by decide) hi rfl
    · exact own_ne h.hr d.hf (by decide) hi rfl
    · exact own_ne h.hr d.hn (by decide) hi rfl
    · obtain ⟨c, hc⟩ := own_elem h.hr hi
      exact own_ne d.hl hc (by decide) hf rfl
theorem JIs.put {w : World} {B jb db : Nat} {vr : Value} {ep u : Nat} {recs : List ByteArray} (h : JIs w B jb db vr ep u recs) (i : Nat) (v : Value) {vr' : Value} {ep' u' : Nat}
    (hc : (#[.pointer (some ⟨db, 0, none⟩), .int .i64 ep, .int .i64 u, vr] : Array Value).setIfInBounds i v = #[.pointer (some ⟨db, 0, none⟩), .int .i64 ep', .int .i64 u', vr']) (hv : vr' = vr) : JIs (w.setCell ⟨jb, i, none⟩ v) B jb db vr' ep' u' recs := by
  subst hv
  have h1 := heap_setCell_same w jb i _ _ v h.hb
  have hne : vr'.ownBlock ≠ some jb := fun e => own_ne h.hr h.hb (by decide) e rfl
  refine ⟨?_, ownsRow_setCell_other h.hr (a := ⟨jb, i, none⟩) hne _⟩
  rw [h1, hc]
/-- A new record, laid into the field. -/
theorem JIs.push {w w2 : World} {B jb db : Nat} {vr v2 : Value} {ep u : Nat} {recs : List ByteArray} (h : JIs w B jb db vr ep u recs) (s : ByteArray) (hg : w.grownBy w2 vr.ownBlock)
    (ho : w2.ownsRow B 9 1 v2 (recs.length + 1) (recs.map .string ++ [.string s])) : JIs (w2.setCell ⟨jb, 3, none⟩ v2) B jb db v2 ep u (recs ++ [s]) := by
  have hne : vr.ownBlock ≠ some jb := fun e => own_ne h.hr h.hb (by decide) e rfl
  have h2 : w2.heap[jb]? = some (.cells #[.pointer (some ⟨db, 0, none⟩), .int .i64 ep, .int .i64 u, vr] 77 (0, 0)) := (hg.block _ h.lt (fun e => hne e.symm)).trans h.hb
  have h1 := heap_setCell_same w2 jb 3 _ _ v2 h2
  have hne2 : v2.ownBlock ≠ some jb := fun e => own_ne ho h2 (by decide) e rfl
  refine ⟨by rw [h1]; rfl, ?_⟩
  have := ownsRow_setCell_other ho (a := ⟨jb, 3, none⟩) hne2 v2
  simpa using this
def blkS (D : Dev) (i : Nat) : ByteArray := ⟨(blkAt D i).toArray⟩
theorem blkS_size {w : World} {r : DRef} {D : Dev} (h : DevIs w r D) {i : Nat} (hi : i < D.now.length) : (blkS D i).size = 64 := by
  have h64 := h.ok.n64 _ (List.getElem_mem hi)
  simp [blkS, blkAt, List.getD, List.getElem?_eq_getElem hi, ByteArray.size, h64]
set_option maxHeartbeats 400000 in
set_option maxRecDepth 100000 in
theorem block_any (r : DRef) (D : Dev) (jb i : Nat) (w : World) (h : DevIs w r D) (hc : w.cell? ⟨jb, 0, none⟩ = some (.pointer (some ⟨r.b, 0, none⟩))) (hi : i < D.now.length) :
    Calls Tryz.prog 69 #[.pointer (some ⟨jb, 0, none⟩), .int .i64 i] w fun e w' => e = .returned (.string (blkS D i)) ∧ w' = w := by
  have H := Lib.hid h
  clear h
  go_enter Tryz.func69, Tryz.ntmps69
  go_wp2_with (refine (DRead_any r D i _ H.out hi).mono ?_; rintro e w2 ⟨rfl, rfl⟩)
  go_ret
  exact ⟨rfl, rfl⟩
/-- The bytes of k blocks from block i on. -/
def catL (D : Dev) (i k : Nat) : List UInt8 := (List.range k).flatMap fun j => blkAt D (i + j)
theorem catL_zero (D : Dev) (i : Nat) : catL D i 0 = [] := rfl
theorem catL_succ (D : Dev) (i k : Nat) : catL D i (k + 1) = catL D i k ++ blkAt D (i + k) := by simp [catL, List.range_succ]
theorem catL_len {w : World} {r : DRef} {D : Dev} (h : DevIs w r D) (i : Nat) : ∀ k, i + k ≤ D.now.length → (catL D i k).length = 64 * k
  | 0, _ => rfl
  | k + 1, hk => by
    have := blkS_size h (i := i + k) (by omega)
    rw [catL_succ, List.length_append, catL_len h i k (by omega)]
    have h2 : (blkAt D (i + k)).length = 64 := by simpa [blkS, ByteArray.size] using this
    omega
def catS (D : Dev) (i k : Nat) : ByteArray := ⟨(catL D i k).toArray⟩
/-- The records from block 'at' on: how many blocks they take, and what they are; none: they have no form. -/
def scanP (D : Dev) (a h : Nat) : Nat → Nat → List ByteArray → Option (Nat × List ByteArray)
  | 0, u, l => some (u, l)
  | f + 1, u, l => if h ≤ u then some (u, l) else
    if byteAt (blkS D (a + u)) 0 = 0 then some (u, l) else
    match numJ ((blkS D (a + u)).extract 1 64) 4194304 with
    | none => none
    | some n => if byteAt (blkS D (a + u)) 0 ≠ 1 ∨ h < u + 1 + cnt n then none
      else scanP D a h f (u + 1 + cnt n) (l ++ [(catS D (a + u + 1) (cnt n)).extract 0 n])
def parseP (D : Dev) : Option (Nat × Nat × List ByteArray) :=
  if Lib.hasPrefix (blkS D 0).data.toList [77, 65, 80, 74] = false then none else
  match numJ ((blkS D 0).extract 4 64) 2147483647 with
  | none => none
  | some ep => (scanP D (fst0 D ep) (hlf D) (hlf D) 0 []).map fun x => (ep, x.1, x.2)
end Go.Proofs.YtjflcpkmoamijaaGreatDoor
namespace Go.Proofs.YtjflcpkmoamijaaGreatDoor
open Go.RowKit
set_option linter.unusedVariables false
set_option linter.unusedSimpArgs false
set_option linter.unnecessarySimpa false

def ParsePost (D : Dev) (jb db : Nat) (w : World) (e : Ending) (w' : World) : Prop :=
  Fr w w' (· = jb) ∧ (match parseP D with | none => e = .panicked badForm | some (ep, u, l) => e = .returned (.tuple #[]) ∧ ∃ vr, JIs w' w.heap.size jb db vr ep u l)
theorem ParsePost.bad {D : Dev} {jb db : Nat} {w w' : World} (h : parseP D = none) (k : Fr w w' (· = jb)) : ParsePost D jb db w (.panicked badForm) w' := by
  unfold ParsePost; rw [h]; exact ⟨k, rfl⟩
theorem ParsePost.good {D : Dev} {jb db : Nat} {w w' : World} {ep u : Nat} {l : List ByteArray} (h : parseP D = some (ep, u, l)) (k : Fr w w' (· = jb)) {vr : Value} (hj : JIs w' w.heap.size jb db vr ep u l) : ParsePost D jb db w (.returned (.tuple #[])) w' := by
  unfold ParsePost; rw [h]; exact ⟨k, rfl, vr, hj⟩
theorem numJ_le {s : ByteArray} {most n : Nat} (h : numJ s most = some n) : n ≤ most := by
  unfold numJ at h
  split at h
  · rename_i h1
    injection h with h
    omega
  · cases h
theorem fst0_le {D : Dev} (ep : Nat) : fst0 D ep ≤ 1 + hlf D := by unfold fst0; split <;> omega
theorem wr_used (u c : Nat) (h : u + 1 + c ≤ 100000) : IntKind.i64.wrap ((u : Int) + IntKind.i64.wrap (1 + (c : Int))) = ((u + 1 + c : Nat) : Int) := by
  rw [IntKind.wrap_i64, IntKind.wrap_i64]; omega
theorem scanP_end {D : Dev} {a h k u : Nat} {l : List ByteArray} (hu : h ≤ u) : scanP D a h k u l = some (u, l) := by
  cases k with
  | zero => rfl
  | succ k => simp [scanP, hu]
theorem scanP_stop {D : Dev} {a h k u : Nat} {l : List ByteArray} (hu : u < h) (h0 : byteAt (blkS D (a + u)) 0 = 0) : scanP D a h (k + 1) u l = some (u, l) := by
  simp [scanP, Nat.not_le.2 hu, h0]
theorem scanP_form {D : Dev} {a h k u : Nat} {l : List ByteArray} (hu : u < h) (h0 : byteAt (blkS D (a + u)) 0 ≠ 0) (hn : numJ ((blkS D (a + u)).extract 1 64) 4194304 = none) : scanP D a h (k + 1) u l = none := by
  simp [scanP, Nat.not_le.2 hu, h0, hn]
theorem scanP_bad {D : Dev} {a h k u n : Nat} {l : List ByteArray} (hu : u < h) (h0 : byteAt (blkS D (a + u)) 0 ≠ 0) (hn : numJ ((blkS D (a + u)).extract 1 64) 4194304 = some n) (hb : byteAt (blkS D (a + u)) 0 ≠ 1 ∨ h < u + 1 + cnt n) : scanP D a h (k + 1) u l = none := by
  simp only [scanP, Nat.not_le.2 hu, h0, hn, if_false]
  rw [if_pos hb]
theorem scanP_next {D : Dev} {a h k u n : Nat} {l : List ByteArray} (hu : u < h) (h0 : byteAt (blkS D (a + u)) 0 = 1) (hn : numJ ((blkS D (a + u)).extract 1 64) 4194304 = some n) (hb : u + 1 + cnt n ≤ h) : scanP D a h (k + 1) u l = scanP D a h k (u + 1 + cnt n) (l ++ [(catS D (a + u + 1) (cnt n)).extract 0 n]) := by
  have h1 : ¬ byteAt (blkS D (a + u)) 0 = 0 := by omega
  simp only [scanP, Nat.not_le.2 hu, h1, hn, if_false]
  rw [if_neg (by omega)]
set_option maxHeartbeats 2000000 in
set_option maxRecDepth 100000 in
theorem parse_any (r : DRef) (D : Dev) (jb : Nat) (w : World) (h : DevIs w r D) (hj : JIs w w.heap.size jb r.b (.slice none 0 0) 0 0 []) :
    Calls Tryz.prog 40 #[.pointer (some ⟨jb, 0, none⟩)] w (ParsePost D jb r.b w) := by
  have hh := half_lt h
  have hd := Lib.hid (fun i (hi : r.foot i) (hij : i = jb) => jfoot_dev hj h (.inl hij) hi)
  have hp := h.ok.pos
  have H := Lib.hid h
  have J := Lib.hid hj
  have c0 := hj.c0
  have hlt := hj.lt
  clear h hj
  have hz0 : (blkS D 0).size = 64 := blkS_size H.out (by omega)
  go_enter Tryz.func40, Tryz.ntmps40
  go_wp2_with fail
  refine (block_any r D jb 0 _ H.out c0 (by omega)).mono ?_
  rintro e w2 ⟨rfl, rfl⟩
  go_wp2_with fail
  refine (Tryz.strings_HasPrefix _ _ _).mono ?_
  rintro e w2 ⟨rfl, rfl⟩
  rcases hpx : Lib.hasPrefix (blkS D 0).data.toList (#[77, 65, 80, 74] : Array UInt8).toList with _ | _
  · have hbad : parseP D = none := by unfold parseP; rw [if_pos hpx]
    go_wp2_with fail
    exact ⟨rfl, ParsePost.bad hbad (Fr.refl _ _)⟩
  · go_wp2_with fail
    have hN0 := number_any ((blkS D 0).extract 4 64) 2147483647 w2 (by simp only [ByteArray.size_extract]; omega) (by omega)
    refine hN0.mono ?_
    clear hN0
    rintro e w3 ⟨he, b3⟩
    have HP : Hid (parseP D = match numJ ((blkS D 0).extract 4 64) 2147483647 with | none => none | some ep => (scanP D (fst0 D ep) (hlf D) (hlf D) 0 []).map fun x => (ep, x.1, x.2)) := by
      show _ = _; unfold parseP; rw [if_neg (by simp [hpx])] <;> rfl
    rcases hnn : numJ ((blkS D 0).extract 4 64) 2147483647 with _ | ep
    · rw [hnn] at he HP
      subst he
      exact ⟨rfl, ParsePost.bad HP.out (Fr.of_below b3 _)⟩
    · have hep := numJ_le hnn
      rw [hnn] at he HP
      simp only at he
      subst he
      have F3 := Lib.hid (Fr.of_below b3 (· = jb))
      have J3 := J.out.fr (Fr.of_below b3 Nowhere) (fun _ _ h => h)
      have c1 := J3.c1
      have f1 := J3.fz 1
      have HJ3 := Lib.hid J3
      clear hnn hpx hz0 c0 b3 J3
      go_wp2_with fail
      have J4 := HJ3.out.put 1 (.int .i64 ep) (ep' := ep) rfl rfl
      have F4 := F3.out.setCell (⟨jb, 1, none⟩ : Addr) (.int .i64 ep) (fun _ => rfl)
      have H4 := Lib.hid (H.out.fr F4 (fun i hi hij => hd.out i hi hij))
      generalize w3.setCell ⟨jb, 1, none⟩ (.int .i64 ep) = w4 at *
      clear F3 HJ3 c1 f1
      have c0 := J4.c0
      have c1 := J4.c1
      have HJ4 := Lib.hid J4
      have HF4 := Lib.hid F4
      clear J4 F4
      go_quiet (first
        | (refine Calls.quiet_of_same (first_any r D ep _ ?_); exact H4.out.drewN _)
        | (refine Calls.quiet_of_same (half_any r D _ ?_); exact H4.out.drewN _))
      have J5 : Hid (JIs (w4.drewN nq) w2.heap.size jb r.b (.slice none 0 0) ep 0 []) := HJ4.out.drewN nq
      have F5 : Hid (Fr w2 (w4.drewN nq) (· = jb)) := HF4.out.drewN nq
      clear H4 c0 c1 HJ4 HF4
      generalize w4.drewN nq = w5 at *
      clear w4 w3
      have hfa := fst0_le (D := D) ep
      generalize fst0 D ep = a at *
      go_wp2_with fail
      go_loopg [5] (hlf D) (fun k _ wr => ∃ u l vr, u ≤ hlf D ∧ Hid (scanP D a (hlf D) (hlf D) 0 [] = scanP D a (hlf D) k u l) ∧ hlf D ≤ u + k ∧ Hid (JIs wr w2.heap.size jb r.b vr ep u l) ∧ Hid (Fr w2 wr (· = jb)) ∧ l.length ≤ u)
      case atStart => exact ⟨0, [], _, by omega, rfl, by omega, J5, F5, by simp⟩
      case round =>
        obtain ⟨u, l, vr, hu, hsc, huk, hJ, hF, hll⟩ := hrel
        have c2 := hJ.out.c2
        have c0 := hJ.out.c0
        by_cases hlt2 : u < hlf D
        · have hlt2' : (u : Int) < (hlf D : Int) := by omega
          obtain ⟨k, rfl⟩ : ∃ k, gk = k + 1 := ⟨gk - 1, by omega⟩
          obtain ⟨au, hau⟩ : ∃ au : Nat, (a : Int) + u = au := ⟨a + u, by simp⟩
          have HA : Hid (au = a + u) := by show au = a + u; omega
          have hau1 : au < D.now.length := by omega
          have Hr := Lib.hid (H.out.fr hF.out (fun i hi hij => hd.out i hi hij))
          have hz := Lib.hid (blkS_size Hr.out hau1)
          go_wp2_with fail
          refine (block_any r D jb au _ Hr.out c0 hau1).mono ?_
          rintro e wx ⟨rfl, rfl⟩
          have hbz : 0 < (blkS D au).size := by rw [hz.out]; omega
          have hb : byteAt (blkS D au) 0 = (blkS D au)[0].toNat := by simp [byteAt, hbz]
          have hz1 : (blkS D au).size = 64 := hz.out
          by_cases hc0 : byteAt (blkS D au) 0 = 0
          · have hv : (blkS D au)[0].toNat = 0 := by omega
            clear hb
            go_wp2_with fail
            go_end0
            refine ParsePost.good (ep := ep) (u := u) (l := l) ?_ hF.out hJ.out
            rw [HP.out, hsc.out, scanP_stop hlt2 (by rw [← HA.out]; exact hc0)]; rfl
          · have hv : (((blkS D au)[0].toNat : Int) == 0) = false := by rw [hb] at hc0; simp; omega
            have hB := Lib.hid hb
            have hC0 := Lib.hid hc0
            clear hb hc0
            go_wp2_with fail
            have hN0 := number_any ((blkS D au).extract 1 64) 4194304 wx (by simp only [ByteArray.size_extract]; omega) (by omega)
            refine hN0.mono ?_
            clear hN0
            rintro e w6 ⟨he, b6⟩
            have F6 := Lib.hid (hF.out.tr (Fr.of_below b6 _))
            have J6 := Lib.hid (hJ.out.fr (Fr.of_below b6 Nowhere) (fun _ _ h => h))
            have Hr6 := Lib.hid (Hr.out.below b6)
            rcases hnn : numJ ((blkS D au).extract 1 64) 4194304 with _ | n
            · rw [hnn] at he
              subst he
              exact ⟨rfl, ParsePost.bad (by rw [HP.out, hsc.out, scanP_form hlt2 (by rw [← HA.out]; exact hC0.out) (by rw [← HA.out]; exact hnn)]; rfl) F6.out⟩
            · have hn4 := numJ_le hnn
              rw [hnn] at he
              simp only at he
              subst he
              have HNN := Lib.hid hnn
              have hcn : cnt n ≤ 65536 := by unfold cnt; omega
              clear hnn b6 hJ hF Hr c0 c2 wx
              have c0 := J6.out.c0
              have c2 := J6.out.c2
              by_cases hc1 : byteAt (blkS D au) 0 = 1
              · have hv1 : (blkS D au)[0].toNat = 1 := by rw [← hB.out]; exact hc1
                go_wp2_with fail
                go_quiet (refine Calls.quiet_of_same (cnt_any n _ (by omega)))
                have J7 : Hid (JIs (w6.drewN nq) w2.heap.size jb r.b vr ep u l) := J6.out.drewN nq
                have F7 : Hid (Fr w2 (w6.drewN nq) (· = jb)) := F6.out.drewN nq
                have H7 : Hid (DevIs (w6.drewN nq) r D) := Hr6.out.drewN nq
                clear J6 F6 Hr6 c0 c2
                generalize w6.drewN nq = w7 at *
                clear w6
                by_cases hfit : u + 1 + cnt n ≤ hlf D
                · have hfit' : ¬ (hlf D : Int) < (u : Int) + 1 + (cnt n : Int) := by omega
                  go_wp2_with (refine (cnt_any n _ (by omega)).mono ?_; rintro e w8 ⟨rfl, rfl⟩)
                  have hbl : w7.heap.size < (w7.alloc (.cells #[.pointer none, .slice none 0 0] 116)).heap.size := by simp
                  have hbld := Lib.fresh_isBuilder 116 5 w7
                  have J8 : JIs (w7.alloc (.cells #[.pointer none, .slice none 0 0] 116)) w2.heap.size jb r.b vr ep u l := J7.out.fr ((Fr.refl _ Nowhere).alloc _) (fun _ _ h => h)
                  have B8 : Below w7.heap.size w7 (w7.alloc (.cells #[.pointer none, .slice none 0 0] 116)) := (Below.refl _ _).alloc (Nat.le_refl _) _
                  have HBL := Lib.hid hbld
                  have HB8 := Lib.hid B8
                  generalize w7.alloc (.cells #[.pointer none, .slice none 0 0] 116) = w8 at *
                  clear hbld B8 J8
                  go_loopg [75] (cnt n) (fun k v wr => ∃ i : Nat, v = .int .i64 i ∧ i ≤ cnt n ∧ cnt n ≤ i + k ∧ Hid (Lib.IsBuilder 116 5 w7.heap.size w7.heap.size (Lib.byteCells (catL D (au + 1) i)) wr) ∧ Hid (Below w7.heap.size w7 wr))
                  case atStart => exact ⟨0, rfl, by omega, by omega, HBL.out, HB8.out⟩
                  case round =>
                    obtain ⟨i, rfl, hi, hik, hB, hW⟩ := hrel
                    have Jr := Lib.hid (J7.out.fr (Fr.of_below hW.out Nowhere) (fun _ _ h => h))
                    have Hr := Lib.hid (H7.out.below hW.out)
                    by_cases hic : i < cnt n
                    · have hic' : (i : Int) < (cnt n : Int) := by omega
                      have c2 := Jr.out.c2
                      have c0 := Jr.out.c0
                      obtain ⟨ai, hai⟩ : ∃ ai : Nat, (au : Int) + 1 + i = ai := ⟨au + 1 + i, by simp⟩
                      have hai1 : ai < D.now.length := by omega
                      have HAI : Hid (ai = au + 1 + i) := by show ai = _; omega
                      go_wp2_with fail
                      refine (block_any r D jb ai _ Hr.out c0 hai1).mono ?_
                      rintro e wx ⟨rfl, rfl⟩
                      go_wp2_with fail
                      have hcl := catL_len Hr.out (au + 1) i (by omega)
                      refine (WriteString_any w7.heap.size w7.heap.size _ (blkS D ai) _ hB.out (by rw [Lib.byteCells_length, hcl, blkS_size Hr.out hai1]; omega) hW.out.size).mono ?_
                      clear hcl
                      rintro e w9 ⟨rfl, hB9, hW9⟩
                      obtain ⟨gk', rfl⟩ : ∃ g, gk = g + 1 := ⟨gk - 1, by omega⟩
                      have HB9 : Hid (Lib.IsBuilder 116 5 w7.heap.size w7.heap.size (Lib.byteCells (catL D (au + 1) (i + 1))) w9) := by
                        have e1 : Lib.byteCells (catL D (au + 1) (i + 1)) = Lib.byteCells (catL D (au + 1) i) ++ Lib.strCells (blkS D ai) := by
                          rw [catL_succ, ← HAI.out]; simp [Lib.byteCells, Lib.strCells, blkS]
                        rw [e1]; exact Or.inr hB9
                      have HW9 := Lib.hid (hW.out.trans hW9)
                      clear hB9 hW9
                      go_wp2_with fail
                      go_roundg gk'
                      case rel => exact ⟨i + 1, by go_num, by omega, by omega, HB9.out, HW9.out⟩
                      case measure => omega
                    · have hic' : ¬ (i : Int) < (cnt n : Int) := by omega
                      go_wp2_with fail
                      obtain rfl : i = cnt n := by omega
                      have c3 := Jr.out.c3
                      refine region_seq (fun w' => w'.cell? ⟨jb, 3, none⟩ = some vr) [12]
                        [(.p, 0), (.p, 1), (.p, 2), (.p, 3), (.q, 4), (.p, 6), (.l, 5), (.p, 7), (.l, 8), (.l, 9), (.p, 10), (.p, 11), (.d, 12)] (by kernel_rfl) (by kernel_rfl) (by kernel_rfl) (by kernel_rfl) (fun d v c a w h => by cases d <;> exact h) ?_
                      have hS : wr.drew.cell? ⟨jb, 3, none⟩ = some vr := c3
                      (refine seq_p (N := some 91) rfl rfl (by rfl) ?_ (fun w' => ?_) ?_
                       rotate_left
                       · go_simp
                         with_reducible rfl
                       simp only [Act.put, List.setIfInBounds_toArray, List.set_cons_zero, List.set_cons_succ])
                      (refine seq_p (N := some 92) rfl rfl (by rfl) ?_ (fun w' => ?_) ?_
                       rotate_left
                       · go_simp
                         with_reducible rfl
                       simp only [Act.put, List.setIfInBounds_toArray, List.set_cons_zero, List.set_cons_succ])
                      (refine seq_p (N := some 93) rfl rfl (by rfl) ?_ (fun w' => ?_) ?_
                       rotate_left
                       · go_simp
                         with_reducible rfl
                       simp only [Act.put, List.setIfInBounds_toArray, List.set_cons_zero, List.set_cons_succ])
                      (refine seq_p (N := some 94) rfl rfl (by rfl) ?_ (fun w' => ?_) ?_
                       rotate_left
                       · go_simp
                         with_reducible rfl
                       simp only [Act.put, List.setIfInBounds_toArray, List.set_cons_zero, List.set_cons_succ])
                      (refine seq_q (N := some 95) rfl rfl (by rfl) ?_ ?_ hS ?_
                       rotate_left
                       · rintro w' s1
                         go_simp
                         with_reducible rfl
                       simp only [Act.put, List.setIfInBounds_toArray, List.set_cons_zero, List.set_cons_succ])
                      (refine seq_p (N := some 97) rfl rfl (by rfl) ?_ (fun w' => ?_) ?_
                       rotate_left
                       · go_simp
                         with_reducible rfl
                       simp only [Act.put, List.setIfInBounds_toArray, List.set_cons_zero, List.set_cons_succ])
                      refine seq_l rfl (by rfl) (wp_cl (N := some 96) (f := 73) (vs := #[.pointer (some ⟨w7.heap.size, 0, none⟩)]) rfl rfl (by simp [Act.eval]) (callF Tryz.func73 rfl (by decide) _ _) ?_)
                      have hsx : n ≤ (catS D (au + 1) (cnt n)).size := by
                        have := catL_len Hr.out (au + 1) (cnt n) (by omega)
                        simp only [catS, ByteArray.size, List.size_toArray, this]; unfold cnt; omega
                      refine (Tryz.Builder_String_any w7.heap.size w7.heap.size (catL D (au + 1) (cnt n)) wr.drew hB.out hW.out.drew.size).mono ?_
                      rintro e w10 ⟨rfl, hb10⟩
                      have W10 := Lib.hid (hW.out.drew.trans hb10)
                      have J10 := Lib.hid (J7.out.fr (Fr.of_below W10.out Nowhere) (fun _ _ h => h))
                      clear hb10
                      have hcat : (⟨(catL D (au + 1) (cnt n)).toArray⟩ : ByteArray) = catS D (au + 1) (cnt n) := rfl
                      rw [hcat]
                      clear hcat
                      have HNext : Hid (scanP D a (hlf D) (hlf D) 0 [] = scanP D a (hlf D) k (u + 1 + cnt n) (l ++ [(catS D (au + 1) (cnt n)).extract 0 n])) := by
                        show _ = _
                        rw [hsc.out, scanP_next hlt2 (by rw [← HA.out]; exact hc1) (by rw [← HA.out]; exact HNN.out) hfit, ← HA.out]
                      generalize catS D (au + 1) (cnt n) = sx at *
                      refine ⟨_, rfl, ?_⟩
                      simp only [Act.put, List.setIfInBounds_toArray, List.set_cons_zero, List.set_cons_succ]
                      refine ⟨fun _ => J10.out.c3, ?_⟩
                      have hS : w10.cell? ⟨jb, 3, none⟩ = some vr := J10.out.c3
                      (refine seq_p (N := some 98) rfl rfl (by rfl) ?_ (fun w' => ?_) ?_
                       rotate_left
                       · go_simp
                         with_reducible rfl
                       simp only [Act.put, List.setIfInBounds_toArray, List.set_cons_zero, List.set_cons_succ])
                      refine seq_l rfl (by rfl) (wp_bs (N := some 99) (ps := #[(0, .string (sx.extract 0 n))]) rfl rfl (by simp [Act.eval]) (run_bs_str _ _) ?_)
                      simp only [Act.put, List.setIfInBounds_toArray, List.set_cons_zero, List.set_cons_succ]
                      refine ⟨fun _ => (Below.cell ((Below.refl _ _).alloc (Nat.le_refl _) _) (by exact J10.out.lt)).trans hS, ?_⟩
                      have hB2 : w2.heap.size ≤ w10.heap.size := Nat.le_trans F7.out.size W10.out.size
                      refine seq_l rfl (by rfl) (wp_app1 (W := w10) (N := some 100) #[.string (sx.extract 0 n)] _ _ 22 9 (.string ⟨#[]⟩) 1 16 w2.heap.size rfl rfl Tryz.underlying22 info_str rfl (by omega) (by omega) vr l.length (l.map .string) rfl rfl rfl (by simp [Value.oneCell']) J10.out.hr hB2 (by omega) ?_)
                      intro v4 w11 hown4 hg4 hat4
                      simp only [Act.put, List.setIfInBounds_toArray, List.set_cons_zero, List.set_cons_succ]
                      have hne4 : vr.ownBlock ≠ some jb := fun e => own_ne J10.out.hr J10.out.hb (by decide) e rfl
                      have hc11 : w11.cell? ⟨jb, 3, none⟩ = some vr := (World.cell?_of_block (hg4.block _ J10.out.lt (fun e => hne4 e.symm))).trans hS
                      have hf11 : w11.frozen? ⟨jb, 3, none⟩ = false := (World.frozen?_of_block (hg4.block _ J10.out.lt (fun e => hne4 e.symm))).trans (J10.out.fz 3)
                      refine ⟨fun _ => hc11, ?_⟩
                      (refine seq_p (N := some 101) rfl rfl (by rfl) ?_ (fun w' => ?_) ?_
                       rotate_left
                       · go_simp
                         with_reducible rfl
                       simp only [Act.put, List.setIfInBounds_toArray, List.set_cons_zero, List.set_cons_succ])
                      (refine seq_p (N := some 102) rfl rfl (by rfl) ?_ (fun w' => ?_) ?_
                       rotate_left
                       · go_simp
                         with_reducible rfl
                       simp only [Act.put, List.setIfInBounds_toArray, List.set_cons_zero, List.set_cons_succ])
                      refine seq_d rfl (by rfl) (wp_st rfl rfl rfl rfl (store1 _ _ jb 3 v4 vr (own_cell hown4) (by kernel_rfl) hc11 hf11) ?_)
                      refine seq_nil ?_
                      have J12 := Lib.hid (J10.out.push (sx.extract 0 n) hg4 hown4)
                      have F12 : Fr w2 (w11.setCell ⟨jb, 3, none⟩ v4) (· = jb) :=
                        ((F7.out.tr (Fr.of_below W10.out _)).trans (Fr.grown (S := fun k => vr.ownBlock = some k) hg4 (fun k hk _ => hk)) (fun i hi hk => by have := (own_base' J10.out.hr hk).1; omega)).setCell ⟨jb, 3, none⟩ v4 (fun _ => rfl)
                      have HF12 := Lib.hid F12
                      clear F12 hown4 hg4 hat4 hne4 hc11 hf11 hS hB2 J10 W10 hsx
                      generalize w11.setCell ⟨jb, 3, none⟩ v4 = w12 at *
                      clear w11 c3 hB hik hic hic' hi Jr Hr hW
                      have c2 := J12.out.c2
                      have f2 := J12.out.fz 2
                      go_wp2_with fail
                      refine region_seq (fun w' => w'.cell? ⟨jb, 2, none⟩ = some (.int .i64 u)) [10]
                        [(.p, 0), (.p, 1), (.p, 2), (.q, 3), (.p, 4), (.l, 5), (.p, 6), (.p, 7), (.p, 8), (.p, 9), (.d, 10)] (by kernel_rfl) (by kernel_rfl) (by kernel_rfl) (by kernel_rfl) (fun d v c a w h => by cases d <;> exact h) ?_
                      have hS : w12.drew.cell? ⟨jb, 2, none⟩ = some (.int .i64 u) := c2
                      (refine seq_p (N := some 103) rfl rfl (by rfl) ?_ (fun w' => ?_) ?_
                       rotate_left
                       · go_simp
                         with_reducible rfl
                       simp only [Act.put, List.setIfInBounds_toArray, List.set_cons_zero, List.set_cons_succ])
                      (refine seq_p (N := some 104) rfl rfl (by rfl) ?_ (fun w' => ?_) ?_
                       rotate_left
                       · go_simp
                         with_reducible rfl
                       simp only [Act.put, List.setIfInBounds_toArray, List.set_cons_zero, List.set_cons_succ])
                      (refine seq_p (N := some 105) rfl rfl (by rfl) ?_ (fun w' => ?_) ?_
                       rotate_left
                       · go_simp
                         with_reducible rfl
                       simp only [Act.put, List.setIfInBounds_toArray, List.set_cons_zero, List.set_cons_succ])
                      (refine seq_q (N := some 106) rfl rfl (by rfl) ?_ ?_ hS ?_
                       rotate_left
                       · rintro w' s1
                         go_simp
                         with_reducible rfl
                       simp only [Act.put, List.setIfInBounds_toArray, List.set_cons_zero, List.set_cons_succ])
                      (refine seq_p (N := some 107) rfl rfl (by rfl) ?_ (fun w' => ?_) ?_
                       rotate_left
                       · go_simp
                         with_reducible rfl
                       simp only [Act.put, List.setIfInBounds_toArray, List.set_cons_zero, List.set_cons_succ])
                      refine seq_l rfl (by rfl) (wp_cl (N := some 108) (f := 42) (vs := #[.int .i64 n]) rfl rfl (by simp [Act.eval]) (callF Tryz.func42 rfl (by decide) _ _) ?_)
                      refine (cnt_any n _ (by omega)).mono ?_
                      rintro e w13 ⟨rfl, rfl⟩
                      refine ⟨_, rfl, ?_⟩
                      simp only [Act.put, List.setIfInBounds_toArray, List.set_cons_zero, List.set_cons_succ]
                      refine ⟨fun h => h, ?_⟩
                      (refine seq_p (N := some 109) rfl rfl (by rfl) ?_ (fun w' => ?_) ?_
                       rotate_left
                       · go_simp
                         with_reducible rfl
                       simp only [Act.put, List.setIfInBounds_toArray, List.set_cons_zero, List.set_cons_succ])
                      (refine seq_p (N := some 110) rfl rfl (by rfl) ?_ (fun w' => ?_) ?_
                       rotate_left
                       · go_simp
                         with_reducible rfl
                       simp only [Act.put, List.setIfInBounds_toArray, List.set_cons_zero, List.set_cons_succ])
                      (refine seq_p (N := some 111) rfl rfl (by rfl) ?_ (fun w' => ?_) ?_
                       rotate_left
                       · go_simp
                         with_reducible rfl
                       simp only [Act.put, List.setIfInBounds_toArray, List.set_cons_zero, List.set_cons_succ])
                      (refine seq_p (N := some 112) rfl rfl (by rfl) ?_ (fun w' => ?_) ?_
                       rotate_left
                       · go_simp
                         with_reducible rfl
                       simp only [Act.put, List.setIfInBounds_toArray, List.set_cons_zero, List.set_cons_succ])
                      have hwr := wr_used u (cnt n) (by omega)
                      rw [hwr]
                      refine seq_d rfl (by rfl) (wp_st rfl rfl rfl rfl (store1 _ _ jb 2 (.int .i64 ((u + 1 + cnt n : Nat) : Int)) _ rfl (by kernel_rfl) c2 f2) ?_)
                      refine seq_nil ?_
                      have J14 := Lib.hid ((J12.out.drewN 1).put 2 (.int .i64 ((u + 1 + cnt n : Nat) : Int)) (u' := u + 1 + cnt n) rfl rfl)
                      have F14 := Lib.hid ((HF12.out.drewN 1).setCell ⟨jb, 2, none⟩ (.int .i64 ((u + 1 + cnt n : Nat) : Int)) (fun _ => rfl))
                      clear hS c2 f2 J12 HF12 hwr
                      have hdr : w12.drewN 1 = w12.drew := rfl
                      rw [hdr] at J14 F14
                      clear hdr
                      generalize w12.drew.setCell ⟨jb, 2, none⟩ (.int .i64 ((u + 1 + cnt n : Nat) : Int)) = w14 at *
                      go_wp2_with fail
                      go_roundg k
                      case rel => exact ⟨u + 1 + cnt n, l ++ [sx.extract 0 n], v4, by omega, HNext.out, by omega, J14.out, F14.out, by simp; omega⟩
                      case measure => omega
                · have hfit' : (hlf D : Int) < (u : Int) + 1 + (cnt n : Int) := by omega
                  go_wp2_with fail
                  exact ⟨rfl, ParsePost.bad (by rw [HP.out, hsc.out, scanP_bad hlt2 (by rw [← HA.out]; exact hC0.out) (by rw [← HA.out]; exact HNN.out) (.inr (by omega))]; rfl) F7.out⟩
              · have hv1 : (((blkS D au)[0].toNat : Int) != 1) = true := by rw [hB.out] at hc1; simp; omega
                go_wp2_with fail
                go_quiet (fail)
                go_wp2_with fail
                exact ⟨rfl, ParsePost.bad (by rw [HP.out, hsc.out, scanP_bad hlt2 (by rw [← HA.out]; exact hC0.out) (by rw [← HA.out]; exact HNN.out) (.inl (by rw [← HA.out]; exact hc1))]; rfl) (F6.out.drewN _)⟩
        · have hlt2' : ¬ (u : Int) < (hlf D : Int) := by omega
          go_wp2_with fail
          go_end0
          refine ParsePost.good (ep := ep) (u := u) (l := l) ?_ hF.out hJ.out
          rw [HP.out, hsc.out, scanP_end (by omega)]; rfl
end Go.Proofs.YtjflcpkmoamijaaGreatDoor
namespace Go.Proofs.YtjflcpkmoamijaaGreatDoor
open Go.RowKit
set_option linter.unusedVariables false
set_option linter.unusedSimpArgs false
set_option linter.unnecessarySimpa false

def CatchPost (jc ec : Nat) (w w' : World) : Prop := Cell1 w' jc 28 (.pointer none) ∧ Cell1 w' ec 26 (.int .i64 4) ∧ Fr w w' (fun k => k = jc ∨ k = ec)
theorem assert_bad (W : World) : (Instr.typeAssert (.iface 75 (.agg #[])) 20 75 true).run Tryz.prog W = .ok (.tuple #[.agg #[], .bool true]) W := by kernel_rfl
set_option maxHeartbeats 400000 in
set_option maxRecDepth 100000 in
theorem catch_panicking (jc ec : Nat) (vj : Value) (ve : Value) (w : World) (hj : Cell1 w jc 28 vj) (he : Cell1 w ec 26 ve) (hne : jc ≠ ec) :
    CallsD Tryz.prog 39 #[.pointer (some ⟨jc, 0, none⟩), .pointer (some ⟨ec, 0, none⟩)] (.panicking badForm) w fun e u' w' =>
      e = .returned (.tuple #[]) ∧ u' = .panicking [{ v := .iface 75 (.agg #[]), recovered := true }] ∧ CatchPost jc ec w w' := by
  have c1 := hj.c
  have f1 := hj.f
  have c2 := he.c
  have f2 := he.f
  have l1 := hj.lt
  have l2 := he.lt
  have HJ := Lib.hid hj
  have HE := Lib.hid he
  clear hj he
  refine callsD_of_wpS Tryz.func39 rfl fun c₀ cs hu => ?_
  apply wpS_seq
  apply wpS_region
  simp [wpOpsS, go_sem, recoverD, hu, badForm, Tryz.ntmps39, Exit.thenS]
  refine wpS_of_wp ?_
  have e : ∀ A B V : Value, (#[A, B] : Array Value) ++ (Array.replicate 9 undef).setIfInBounds 3 V = #[A, B, undef, undef, undef, V, undef, undef, undef, undef, undef] := fun _ _ _ => rfl
  rw [e]
  clear e hu
  have hta := assert_bad
  go_wp2_with fail
  have h1 : CatchPost jc ec w (((w.setCell ⟨jc, 0, none⟩ (.pointer none)).setCell ⟨ec, 0, none⟩ (.int .i64 4)).alloc (.cells #[] 75)) := by
    refine ⟨?_, ?_, ?_⟩
    · exact ((HJ.out.set _).other ⟨ec, 0, none⟩ (fun e => hne e.symm) _).alloc _
    · exact ((HE.out.other ⟨jc, 0, none⟩ hne _).set _).alloc _
    · exact (((Fr.refl _ _).setCell _ _ (fun _ => .inl rfl)).setCell _ _ (fun _ => .inr rfl)).alloc _
  have H1 := Lib.hid h1
  clear h1
  simp [bodyPostS, results, Tryz.results39]
  exact H1.out
set_option maxHeartbeats 400000 in
theorem catch_idle (jc ec : Nat) (w : World) :
    CallsD Tryz.prog 39 #[.pointer (some ⟨jc, 0, none⟩), .pointer (some ⟨ec, 0, none⟩)] .returning w fun e u' w' =>
      e = .returned (.tuple #[]) ∧ u' = .returning ∧ w' = w := by
  refine callsD_of_wpS Tryz.func39 rfl fun c₀ cs hu => ?_
  apply wpS_seq
  apply wpS_region
  simp [wpOpsS, go_sem, recoverD, hu, Tryz.ntmps39, Exit.thenS]
  refine wpS_of_wp ?_
  go_wp2_with fail
  cases c₀
  simp_all [bodyPostS, results, Tryz.results39]
end Go.Proofs.YtjflcpkmoamijaaGreatDoor
namespace Go.Proofs.YtjflcpkmoamijaaGreatDoor
open Go.RowKit
set_option linter.unusedVariables false
set_option linter.unusedSimpArgs false
set_option linter.unnecessarySimpa false

theorem own_base_le {w : World} {B B' : Nat} (hB : B' ≤ B) {e : TypeId} {size n : Nat} {v : Value} {xs : List Value} (h : w.ownsRow B e size v n xs) : w.ownsRow B' e size v n xs := by
  refine ⟨h.1, ?_⟩
  rcases h.2 with h2 | ⟨g, cap, cur, hv, hb, rest⟩
  · exact .inl h2
  · exact .inr ⟨g, cap, cur, hv, Nat.le_trans hB hb, rest⟩
theorem JIs.base {w : World} {B B' jb db : Nat} {vr : Value} {ep u : Nat} {recs : List ByteArray} (h : JIs w B jb db vr ep u recs) (hB : B' ≤ B) : JIs w B' jb db vr ep u recs := ⟨h.hb, own_base_le hB h.hr⟩
def OpenPost (D : Dev) (db : Nat) (w : World) (e : Ending) (w' : World) : Prop :=
  Below w.heap.size w w' ∧ (match parseP D with
    | none => e = .returned (.tuple #[.pointer none, .int .i64 4])
    | some (ep, u, l) => ∃ jb vr, e = .returned (.tuple #[.pointer (some ⟨jb, 0, none⟩), .int .i64 0]) ∧ w.heap.size ≤ jb ∧ JIs w' w.heap.size jb db vr ep u l)
theorem OpenPost.bad {D : Dev} {db : Nat} {w w' : World} (h : parseP D = none) (k : Below w.heap.size w w') : OpenPost D db w (.returned (.tuple #[.pointer none, .int .i64 4])) w' := by
  unfold OpenPost; rw [h]; exact ⟨k, rfl⟩
theorem OpenPost.good {D : Dev} {db : Nat} {w w' : World} {ep u : Nat} {l : List ByteArray} {jb : Nat} {vr : Value} (h : parseP D = some (ep, u, l)) (k : Below w.heap.size w w') (hjb : w.heap.size ≤ jb) (hj : JIs w' w.heap.size jb db vr ep u l) :
    OpenPost D db w (.returned (.tuple #[.pointer (some ⟨jb, 0, none⟩), .int .i64 0])) w' := by
  unfold OpenPost; rw [h]; exact ⟨k, jb, vr, rfl, hjb, hj⟩
set_option maxHeartbeats 400000 in
set_option maxRecDepth 100000 in
theorem JOpen_nil (w : World) :
    Calls Tryz.prog 12 #[.pointer none] w fun e w' => e = .returned (.tuple #[.pointer none, .int .i64 1]) ∧ Below w.heap.size w w' := by
  go_enter_defers Tryz.func12, Tryz.ntmps12
  go_wp2_with (refine (check_nil _).mono ?_; rintro e w2 ⟨rfl, rfl⟩)
  have hb : Below w.heap.size w ((w.alloc (.cells #[.pointer none] 28)).alloc (.cells #[.int .i64 1] 26)) := ((Below.refl _ _).alloc (Nat.le_refl _) _).alloc (by simp) _
  have HB := Lib.hid hb
  clear hb
  simp [bodyPostD, results, Tryz.results12, go_sem, Leaves, settle]
  exact HB.out
set_option maxHeartbeats 400000 in
set_option maxRecDepth 100000 in
theorem JOpen_short (r : DRef) (D : Dev) (w : World) (h : DevIs w r D) (h5 : D.now.length < 5) :
    Calls Tryz.prog 12 #[.pointer (some ⟨r.b, 0, none⟩)] w fun e w' => e = .returned (.tuple #[.pointer none, .int .i64 12]) ∧ Below w.heap.size w w' := by
  have H := Lib.hid h
  clear h
  go_enter_defers Tryz.func12, Tryz.ntmps12
  go_wp2_with fail
  refine (check_any r D _ (H.out.below (((Below.refl _ _).alloc (Nat.le_refl _) _).alloc (by simp) _))).mono ?_
  rintro e w2 ⟨rfl, rfl⟩
  rw [if_pos h5]
  go_wp2_with fail
  have hb : Below w.heap.size w ((w.alloc (.cells #[.pointer none] 28)).alloc (.cells #[.int .i64 12] 26)) := ((Below.refl _ _).alloc (Nat.le_refl _) _).alloc (by simp) _
  have HB := Lib.hid hb
  clear hb
  simp [bodyPostD, results, Tryz.results12, go_sem, Leaves, settle]
  exact HB.out
set_option maxHeartbeats 400000 in
set_option maxRecDepth 100000 in
theorem JOpen_any (r : DRef) (D : Dev) (w : World) (h : DevIs w r D) (h5 : 5 ≤ D.now.length) :
    Calls Tryz.prog 12 #[.pointer (some ⟨r.b, 0, none⟩)] w (OpenPost D r.b w) := by
  have hmf : ∀ (fn : Fn) (first cap : Array Value) (w : World), (Instr.makeFunc fn first cap).run Tryz.prog w = .ok (.func fn first cap) w := fun _ _ _ _ => rfl
  have H := Lib.hid h
  clear h
  go_enter_defers Tryz.func12, Tryz.ntmps12
  go_wp2_with fail
  refine (check_any r D _ (H.out.below (((Below.refl _ _).alloc (Nat.le_refl _) _).alloc (by simp) _))).mono ?_
  rintro e w2 ⟨rfl, rfl⟩
  rw [if_neg (by omega)]
  go_wp2_with fail
  have hb0 : Below w.heap.size w (((w.alloc (.cells #[.pointer (some ⟨w.heap.size + 1 + 1, 0, none⟩)] 28)).alloc (.cells #[.int .i64 0] 26)).alloc (.cells #[.pointer (some ⟨r.b, 0, none⟩), .int .i64 0, .int .i64 0, .slice none 0 0] 77)) :=
    (((Below.refl _ _).alloc (Nat.le_refl _) _).alloc (by simp) _).alloc (by simp; omega) _
  have p0 : Cell1 (((w.alloc (.cells #[.pointer (some ⟨w.heap.size + 1 + 1, 0, none⟩)] 28)).alloc (.cells #[.int .i64 0] 26)).alloc (.cells #[.pointer (some ⟨r.b, 0, none⟩), .int .i64 0, .int .i64 0, .slice none 0 0] 77)) w.heap.size 28 (.pointer (some ⟨w.heap.size + 1 + 1, 0, none⟩)) := ((Cell1.new _ _ _).alloc _).alloc _
  have p1 : Cell1 (((w.alloc (.cells #[.pointer (some ⟨w.heap.size + 1 + 1, 0, none⟩)] 28)).alloc (.cells #[.int .i64 0] 26)).alloc (.cells #[.pointer (some ⟨r.b, 0, none⟩), .int .i64 0, .int .i64 0, .slice none 0 0] 77)) (w.heap.size + 1) 26 (.int .i64 0) := by
    have := Cell1.new (w.alloc (.cells #[.pointer (some ⟨w.heap.size + 1 + 1, 0, none⟩)] 28)) 26 (.int .i64 0)
    simp only [World.size_alloc] at this
    exact this.alloc _
  have p2 : (((w.alloc (.cells #[.pointer (some ⟨w.heap.size + 1 + 1, 0, none⟩)] 28)).alloc (.cells #[.int .i64 0] 26)).alloc (.cells #[.pointer (some ⟨r.b, 0, none⟩), .int .i64 0, .int .i64 0, .slice none 0 0] 77)).heap[w.heap.size + 1 + 1]? = some (.cells #[.pointer (some ⟨r.b, 0, none⟩), .int .i64 0, .int .i64 0, .slice none 0 0] 77 (0, 0)) := by
    have := heap_alloc_new ((w.alloc (.cells #[.pointer (some ⟨w.heap.size + 1 + 1, 0, none⟩)] 28)).alloc (.cells #[.int .i64 0] 26)) (.cells #[.pointer (some ⟨r.b, 0, none⟩), .int .i64 0, .int .i64 0, .slice none 0 0] 77)
    simpa only [World.size_alloc] using this
  generalize hw1 : (((w.alloc (.cells #[.pointer (some ⟨w.heap.size + 1 + 1, 0, none⟩)] 28)).alloc (.cells #[.int .i64 0] 26)).alloc (.cells #[.pointer (some ⟨r.b, 0, none⟩), .int .i64 0, .int .i64 0, .slice none 0 0] 77)) = w1 at *
  have hj1 : JIs w1 w1.heap.size (w.heap.size + 1 + 1) r.b (.slice none 0 0) 0 0 [] := ⟨p2, World.ownsRow_nil _ _ _ _⟩
  have hs1 : w1.heap.size = w.heap.size + 1 + 1 + 1 := by rw [← hw1]; simp
  have B1 := Lib.hid hb0
  have P0 := Lib.hid p0
  have P1 := Lib.hid p1
  clear hw1 hb0 p0 p1 p2
  refine (parse_any r D _ w1 (H.out.below B1.out) hj1).mono ?_
  rintro e w2 ⟨hf, hp⟩
  have hb2 : Below w.heap.size w w2 := B1.out.trans (hf.below (by omega) (by omega))
  have q0 : Cell1 w2 w.heap.size 28 (.pointer (some ⟨w.heap.size + 1 + 1, 0, none⟩)) := P0.out.fr hf (by omega)
  have q1 : Cell1 w2 (w.heap.size + 1) 26 (.int .i64 0) := P1.out.fr hf (by omega)
  have B2 := Lib.hid hb2
  clear hj1 hb2 P0 P1 B1
  rcases hpp : parseP D with _ | ⟨ep, u, l⟩
  · rw [hpp] at hp
    simp only at hp
    subst hp
    have HPP := Lib.hid hpp
    clear hpp hf
    refine leaves_cons (f := 39) (args := #[.pointer (some ⟨w.heap.size, 0, none⟩), .pointer (some ⟨w.heap.size + 1, 0, none⟩)]) (by simp) (by simp [go_sem]) ?_
    refine (catch_panicking _ _ _ _ _ q0 q1 (by omega)).mono ?_
    rintro e u' w3 ⟨rfl, rfl, k0, k1, kf⟩
    have d0 := k0.c
    have d1 := k1.c
    have B3 := Lib.hid (B2.out.trans (kf.below B2.out.size (by intro i hi; omega)))
    clear kf k0 k1 q0 q1
    simp [Leaves, settle, results, Tryz.results12, go_sem, d0, d1]
    exact OpenPost.bad HPP.out B3.out
  · rw [hpp] at hp
    obtain ⟨rfl, vr, hj2⟩ := hp
    have HPP := Lib.hid hpp
    have J2 := Lib.hid hj2
    have c0 := q0.c
    have f0 := q0.f
    have f1 := q1.f
    have Q0 := Lib.hid q0
    have Q1 := Lib.hid q1
    clear hpp hf hj2 q0 q1
    have c1 := Q1.out.c
    go_wp2_with fail
    have b3 : Below w.heap.size w ((w2.setCell ⟨w.heap.size, 0, none⟩ (.pointer (some ⟨w.heap.size + 1 + 1, 0, none⟩))).setCell ⟨w.heap.size + 1, 0, none⟩ (.int .i64 0)) := (B2.out.setCell (p := ⟨w.heap.size, 0, none⟩) (by simp) _).setCell (p := ⟨w.heap.size + 1, 0, none⟩) (by simp) _
    have k0 := (Q0.out.set (.pointer (some ⟨w.heap.size + 1 + 1, 0, none⟩))).other ⟨w.heap.size + 1, 0, none⟩ (by dsimp only; omega) (.int .i64 0)
    have k1 := (Q1.out.other ⟨w.heap.size, 0, none⟩ (by dsimp only; omega) (.pointer (some ⟨w.heap.size + 1 + 1, 0, none⟩))).set (.int .i64 0)
    have j3 : JIs ((w2.setCell ⟨w.heap.size, 0, none⟩ (.pointer (some ⟨w.heap.size + 1 + 1, 0, none⟩))).setCell ⟨w.heap.size + 1, 0, none⟩ (.int .i64 0)) w.heap.size (w.heap.size + 1 + 1) r.b vr ep u l := by
      refine (J2.out.fr (((Fr.refl _ (fun k => k = w.heap.size ∨ k = w.heap.size + 1)).setCell _ _ (fun _ => .inl rfl)).setCell _ _ (fun _ => .inr rfl)) ?_).base (by omega)
      intro i hi hk
      rcases hi with rfl | hi
      · omega
      · have := (own_base' J2.out.hr hi).1; omega
    generalize (w2.setCell ⟨w.heap.size, 0, none⟩ (.pointer (some ⟨w.heap.size + 1 + 1, 0, none⟩))).setCell ⟨w.heap.size + 1, 0, none⟩ (.int .i64 0) = w3 at *
    have d0 := k0.c
    have d1 := k1.c
    have B3 := Lib.hid b3
    have J3 := Lib.hid j3
    clear b3 k0 k1 j3 c0 f0 f1 c1 Q0 Q1 J2
    refine leaves_cons (f := 39) (args := #[.pointer (some ⟨w.heap.size, 0, none⟩), .pointer (some ⟨w.heap.size + 1, 0, none⟩)]) (by simp) (by simp [go_sem]) ?_
    refine (catch_idle _ _ _).mono ?_
    rintro e u' w4 ⟨rfl, rfl, rfl⟩
    simp [Leaves, settle, results, Tryz.results12, go_sem, d0, d1]
    exact OpenPost.good HPP.out B3.out (by omega) J3.out
end Go.Proofs.YtjflcpkmoamijaaGreatDoor
namespace Go.Proofs.YtjflcpkmoamijaaGreatDoor
open Go.RowKit
set_option linter.unusedVariables false
set_option linter.unusedSimpArgs false
set_option linter.unnecessarySimpa false

/-- A write that may find the device stopped. -/
def dwr (D : Dev) (i : Nat) (s : ByteArray) : Dev × Bool := if D.lim = true ∧ D.left = 0 then (D, false) else (D.write i s, true)
/-- Writes in a row, to the first that fails. -/
def wrs (D : Dev) : List (Nat × ByteArray) → Dev × Bool
  | [] => (D, true)
  | x :: l => if (dwr D x.1 x.2).2 then wrs (dwr D x.1 x.2).1 l else dwr D x.1 x.2
theorem wrs_append (D : Dev) (a b : List (Nat × ByteArray)) : wrs D (a ++ b) = if (wrs D a).2 then wrs (wrs D a).1 b else wrs D a := by
  induction a generalizing D with
  | nil => simp [wrs]
  | cons x a ih =>
    simp only [List.cons_append, wrs]
    by_cases h : (dwr D x.1 x.2).2 = true
    · simp only [h, if_true, ih]
    · simp [h]
theorem wrs_one (D : Dev) (i : Nat) (s : ByteArray) : wrs D [(i, s)] = dwr D i s := by
  simp only [wrs]
  split
  · rename_i h; rw [← h]
  · rfl
theorem dwr_len (D : Dev) (i : Nat) (s : ByteArray) : (dwr D i s).1.now.length = D.now.length ∧ (dwr D i s).1.log.length ≤ D.log.length + 1 := by
  unfold dwr; split <;> simp [Dev.write]
theorem wrs_len (D : Dev) (l : List (Nat × ByteArray)) : (wrs D l).1.now.length = D.now.length ∧ (wrs D l).1.log.length ≤ D.log.length + l.length := by
  induction l generalizing D with
  | nil => simp [wrs]
  | cons x l ih =>
    have h := dwr_len D x.1 x.2
    simp only [wrs]
    split
    · have := ih (dwr D x.1 x.2).1
      simp only [List.length_cons]; omega
    · simp only [List.length_cons]; omega
def okE (b : Bool) : Int := if b then 0 else 20
/-- What an operation that writes the device leaves. -/
def WsPost (r : DRef) (x : Dev × Bool) (w : World) (e : Ending) (w' : World) : Prop := e = .returned (.int .i64 (okE x.2)) ∧ ∃ r', DevIs w' r' x.1 ∧ DStep w r w' r'
theorem Wr_any (r : DRef) (D : Dev) (i : Nat) (s : ByteArray) (w : World) (h : DevIs w r D) (hi : i < D.now.length) (hs : s.size ≤ 64) (hlog : D.log.length ≤ 1000000000) :
    Calls Tryz.prog 37 #[.pointer (some ⟨r.b, 0, none⟩), .int .i64 i, .string s] w (WsPost r (dwr D i s) w) := by
  unfold dwr
  by_cases hl : D.lim = true ∧ D.left = 0
  · rw [if_pos hl]
    refine (Write_full r D i s w h hi hs hl.1 hl.2).mono ?_
    rintro e w' ⟨rfl, rfl⟩
    exact ⟨rfl, r, h, DStep.of_fr (Fr.refl _ _)⟩
  · rw [if_neg hl]
    refine (Write_any r D i s w h hi hs (fun a b => hl ⟨a, b⟩) hlog).mono ?_
    rintro e w' ⟨rfl, r', h', k'⟩
    exact ⟨rfl, r', h', k'⟩
theorem JIs.step {w w' : World} {B jb db : Nat} {vr : Value} {ep u : Nat} {recs : List ByteArray} {r r' : DRef} {D : Dev} (h : JIs w B jb db vr ep u recs) (d : DevIs w r D) (k : DStep w r w' r') : JIs w' B jb db vr ep u recs :=
  h.fr k.fr (fun _ hi => jfoot_dev h d hi)
def bodyW (a : Nat) (s : ByteArray) : List (Nat × ByteArray) := (List.range (cnt s.size)).map fun i => (a + 1 + i, s.extract (i * 64) (min s.size ((i + 1) * 64)))
theorem bodyW_len (a : Nat) (s : ByteArray) : (bodyW a s).length = cnt s.size := by simp [bodyW]
theorem bodyW_succ (a : Nat) (s : ByteArray) (i : Nat) (h : i < cnt s.size) : (bodyW a s).take (i + 1) = (bodyW a s).take i ++ [(a + 1 + i, s.extract (i * 64) (min s.size ((i + 1) * 64)))] := by
  rw [List.take_succ_eq_append_getElem (by rw [bodyW_len]; exact h)]
  simp [bodyW]
theorem wrs_stop {D : Dev} {l : List (Nat × ByteArray)} (k : Nat) (h : (wrs D (l.take k)).2 = false) : wrs D l = wrs D (l.take k) := by
  have := wrs_append D (l.take k) (l.drop k)
  rw [List.take_append_drop, if_neg (by simp [h])] at this
  exact this
set_option maxHeartbeats 1000000 in
set_option maxRecDepth 100000 in
theorem body_any (r : DRef) (D : Dev) (jb a : Nat) (B : Nat) (vr : Value) (ep u : Nat) (recs : List ByteArray) (s : ByteArray) (w : World) (h : DevIs w r D) (hj : JIs w B jb r.b vr ep u recs)
    (ha : a + 1 + cnt s.size ≤ D.now.length) (hlog : D.log.length ≤ 1000000) :
    Calls Tryz.prog 44 #[.pointer (some ⟨jb, 0, none⟩), .int .i64 a, .string s] w (WsPost r (wrs D (bodyW a s)) w) := by
  have ht := h.ok.top
  have hcnt : cnt s.size ≤ 65536 := by omega
  have hsz : s.size ≤ 4194304 := by unfold cnt at hcnt; omega
  have H := Lib.hid h
  have J := Lib.hid hj
  have HLG := Lib.hid hlog
  clear h hj hlog
  go_enter Tryz.func44, Tryz.ntmps44
  go_wp2_with (refine (cnt_any s.size _ (by omega)).mono ?_; rintro e w2 ⟨rfl, rfl⟩)
  go_loopw [13] (fun v wr => ∃ (i : Nat) (r' : DRef), v = .int .i64 i ∧ i ≤ cnt s.size ∧ (wrs D ((bodyW a s).take i)).2 = true ∧ Hid (DevIs wr r' (wrs D ((bodyW a s).take i)).1) ∧ Hid (DStep w2 r wr r')) (fun v _ => cnt s.size - (intOf v).toNat)
  case atStart => exact ⟨0, r, rfl, by omega, rfl, H.out, DStep.of_fr (Fr.refl _ _)⟩
  case round =>
    obtain ⟨i, r', rfl, hi, hok, hD, hS⟩ := hrel
    by_cases hic : i < cnt s.size
    · have hic' : (i : Int) < (cnt s.size : Int) := by omega
      have hlenD := wrs_len D ((bodyW a s).take i)
      have hsucc := bodyW_succ a s i hic
      have hok' := Lib.hid hok
      have HX : Hid (wrs D ((bodyW a s).take (i + 1)) = dwr (wrs D ((bodyW a s).take i)).1 (a + 1 + i) (s.extract (i * 64) (min s.size ((i + 1) * 64)))) := by
        show _ = _
        rw [hsucc, wrs_append, if_pos hok, wrs_one]
      have HTL : Hid ((bodyW a s).take i ++ (bodyW a s).drop i = bodyW a s) := List.take_append_drop _ _
      have htake : ((bodyW a s).take i).length = i := by rw [List.length_take, bodyW_len]; omega
      rw [htake] at hlenD
      clear hsucc hok htake
      generalize hDi : (wrs D ((bodyW a s).take i)).1 = Di at *
      have HDi := Lib.hid hDi
      clear hDi
      have hrb := hS.out.b
      have hJ := Lib.hid (J.out.step H.out hS.out)
      have c0 := hJ.out.c0
      obtain ⟨lo, hlo⟩ : ∃ lo : Nat, (i : Int) * 64 = lo := ⟨i * 64, by simp⟩
      obtain ⟨h1, hh1⟩ : ∃ h1 : Nat, ((i : Int) + 1) * 64 = h1 := ⟨(i + 1) * 64, by simp⟩
      obtain ⟨hi2, hhi2⟩ : ∃ hi2 : Nat, min (s.size : Int) (h1 : Int) = hi2 := ⟨min s.size h1, by omega⟩
      have hlh : lo ≤ hi2 := by unfold cnt at hic; omega
      have hhs : hi2 ≤ s.size := by omega
      obtain ⟨ai, hai⟩ : ∃ ai : Nat, (a : Int) + 1 + i = ai := ⟨a + 1 + i, by simp⟩
      have HEQ : Hid (dwr Di (a + 1 + i) (s.extract (i * 64) (min s.size ((i + 1) * 64))) = dwr Di ai (s.extract lo hi2)) := by
        show _ = _
        have e1 : a + 1 + i = ai := by omega
        have e2 : i * 64 = lo := by omega
        have e3 : min s.size ((i + 1) * 64) = hi2 := by omega
        rw [e1, e2, e3]
      have hain : ai < Di.now.length := by omega
      have hsl : (s.extract lo hi2).size ≤ 64 := by simp only [ByteArray.size_extract]; omega
      go_wp2_with fail
      rw [← hrb]
      refine (Wr_any r' Di ai (s.extract lo hi2) wr hD.out hain hsl (by have := HLG.out; omega)).mono ?_
      rintro e w3 ⟨rfl, r3, d3, k3⟩
      have K3 := Lib.hid (hS.out.trans k3)
      have D3 := Lib.hid d3
      clear k3 d3 hD hS hJ c0
      rcases hb : (dwr Di ai (s.extract lo hi2)).2 with _ | _
      · have HP : Hid (WsPost r (wrs D (bodyW a s)) w2 (.returned (.int .i64 20)) w3) := by
          have hx : wrs D (bodyW a s) = dwr Di ai (s.extract lo hi2) := by
            rw [wrs_stop (i + 1) (by rw [HX.out, HEQ.out, hb]), HX.out, HEQ.out]
          rw [hx]
          exact ⟨by rw [hb]; rfl, r3, D3.out, K3.out⟩
        clear HX HEQ HTL hok' HDi
        go_wp2_with fail
        simp only [okE, Bool.false_eq_true, if_false]
        go_wp2_with fail
        go_ret
        exact HP.out
      · have HOK : Hid ((wrs D ((bodyW a s).take (i + 1))).2 = true) := by show _ = _; rw [HX.out, HEQ.out, hb]
        have HD3 : Hid (DevIs w3 r3 (wrs D ((bodyW a s).take (i + 1))).1) := by show DevIs _ _ _; rw [HX.out, HEQ.out]; exact D3.out
        clear HX HEQ HTL hok' HDi D3
        simp only [okE, if_true]
        go_wp2_with fail
        go_roundw
        case rel => exact ⟨i + 1, r3, by go_num, by omega, HOK.out, HD3.out, K3.out⟩
        case measure => simp [intOf]; omega
    · have hic' : ¬ (i : Int) < (cnt s.size : Int) := by omega
      obtain rfl : i = cnt s.size := by omega
      have htake : (bodyW a s).take (cnt s.size) = bodyW a s := List.take_of_length_le (by rw [bodyW_len]; exact Nat.le_refl _)
      rw [htake] at hok hD
      clear htake
      have HP : Hid (WsPost r (wrs D (bodyW a s)) w2 (.returned (.int .i64 0)) wr) := by
        refine ⟨by rw [hok]; rfl, r', hD.out, hS.out⟩
      clear hok hD hS
      go_wp2_with fail
      go_ret
      exact HP.out
end Go.Proofs.YtjflcpkmoamijaaGreatDoor
namespace Go.Proofs.YtjflcpkmoamijaaGreatDoor
open Go.RowKit
set_option linter.unusedVariables false
set_option linter.unusedSimpArgs false
set_option linter.unnecessarySimpa false

/-- A journal, as an operation finds and leaves it: the device, the epoch, the blocks used, the records. -/
structure Jn where
  D : Dev
  ep : Nat
  u : Nat
  l : List ByteArray
def appW (D : Dev) (ep u : Nat) (s : ByteArray) : List (Nat × ByteArray) :=
  bodyW (fst0 D ep + u) s ++ ((if u + 1 + cnt s.size < hlf D then [(fst0 D ep + u + 1 + cnt s.size, (⟨#[]⟩ : ByteArray))] else []) ++ [(fst0 D ep + u, headS s.size)])
def appendP (J : Jn) (s : ByteArray) : Jn × Bool :=
  if hlf J.D < J.u + 1 + cnt s.size then (J, false) else
  if (wrs J.D (appW J.D J.ep J.u s)).2 then ({ J with D := (wrs J.D (appW J.D J.ep J.u s)).1, u := J.u + 1 + cnt s.size, l := J.l ++ [s] }, true)
  else ({ J with D := (wrs J.D (appW J.D J.ep J.u s)).1 }, false)
def JPost (r : DRef) (jb B : Nat) (vr : Value) (x : Jn × Bool) (w : World) (e : Ending) (w' : World) : Prop :=
  e = .returned (.int .i64 (okE x.2)) ∧ ∃ r' vr', DevIs w' r' x.1.D ∧ JIs w' B jb r.b vr' x.1.ep x.1.u x.1.l ∧ r'.b = r.b ∧ Fr w w' (fun k => r.foot k ∨ jfoot jb vr k) ∧
    (∀ k, k < w.heap.size → r'.foot k → r.foot k) ∧ (∀ k, k < w.heap.size → jfoot jb vr' k → jfoot jb vr k)
theorem JPost.dev {r r' : DRef} {jb B : Nat} {vr : Value} {J J' : Jn} {w w' : World} {b : Bool} (hj : JIs w B jb r.b vr J.ep J.u J.l) (hd : DevIs w r J.D) (h : DevIs w' r' J'.D) (k : DStep w r w' r') (h1 : J'.ep = J.ep) (h2 : J'.u = J.u) (h3 : J'.l = J.l) :
    JPost r jb B vr (J', b) w (.returned (.int .i64 (okE b))) w' := by
  refine ⟨rfl, r', vr, h, ?_, k.b, k.fr.mono (fun _ _ h => .inl h), k.sub, fun _ _ h => h⟩
  dsimp only
  rw [h1, h2, h3]
  exact hj.step hd k
theorem wrs_fst0 (D : Dev) (l : List (Nat × ByteArray)) (ep : Nat) : fst0 (wrs D l).1 ep = fst0 D ep ∧ hlf (wrs D l).1 = hlf D := by
  have := (wrs_len D l).1
  simp only [fst0, hlf, this, and_self]
set_option maxHeartbeats 1000000 in
set_option maxRecDepth 100000 in
theorem Append_any (r : DRef) (J : Jn) (jb B : Nat) (vr : Value) (s : ByteArray) (w : World) (h : DevIs w r J.D) (hj : JIs w B jb r.b vr J.ep J.u J.l) (hB : B ≤ w.heap.size)
    (hs : s.size ≤ 140737488351232) (hu : J.u ≤ 100000) (hlog : J.D.log.length ≤ 1000000) (hlr : J.l.length ≤ 1000000) :
    Calls Tryz.prog 13 #[.pointer (some ⟨jb, 0, none⟩), .string s] w (JPost r jb B vr (appendP J s) w) := by
  have ht := h.ok.top
  have hh := half_lt h
  obtain ⟨D, ep, u, l⟩ := J
  simp only at h hj hu hlog hlr ht hh
  have c0 := hj.c0
  have c1 := hj.c1
  have c2 := hj.c2
  have H := Lib.hid h
  have HJ := Lib.hid hj
  have HLG := Lib.hid hlog
  have HS := Lib.hid hs
  have HBB := Lib.hid hB
  clear h hj hlog hs hB
  have hcb : cnt s.size ≤ 2200000000000 := by have := HS.out; unfold cnt; omega
  have q1 : wrap64 (1 + (cnt s.size : Int)) = ((1 + cnt s.size : Nat) : Int) := by unfold wrap64; omega
  have q2 : wrap64 ((hlf D : Int) - (u : Int)) = (hlf D : Int) - u := by unfold wrap64; omega
  by_cases hfit : hlf D < u + 1 + cnt s.size
  · have hfit' : (hlf D : Int) - u < 1 + (cnt s.size : Int) := by omega
    have HP : ∀ (w : World), DevIs w r D → JIs w B jb r.b vr ep u l → JPost r jb B vr (appendP ⟨D, ep, u, l⟩ s) w (.returned (.int .i64 20)) w := by
      intro w hd hj
      have : appendP ⟨D, ep, u, l⟩ s = (⟨D, ep, u, l⟩, false) := by unfold appendP; exact if_pos hfit
      rw [this]
      exact JPost.dev (J := ⟨D, ep, u, l⟩) (J' := ⟨D, ep, u, l⟩) (b := false) hj hd hd (DStep.of_fr (Fr.refl _ _)) rfl rfl rfl
    have HP := Lib.hid HP
    go_enter Tryz.func13, Tryz.ntmps13
    go_wp2_with (first
      | (go_at_call 41; refine (half_any r D _ H.out).mono ?_; rintro e w2 ⟨rfl, rfl⟩)
      | (go_at_call 42; refine (cnt_any s.size _ HS.out).mono ?_; rintro e w2 ⟨rfl, rfl⟩))
    go_ret
    exact HP.out _ H.out HJ.out
  · have hfit' : ¬ (hlf D : Int) - u < 1 + (cnt s.size : Int) := by omega
    have HAP : Hid (appendP ⟨D, ep, u, l⟩ s = if (wrs D (appW D ep u s)).2 then (⟨(wrs D (appW D ep u s)).1, ep, u + 1 + cnt s.size, l ++ [s]⟩, true) else (⟨(wrs D (appW D ep u s)).1, ep, u, l⟩, false)) := by
      show _ = _; unfold appendP; rw [if_neg hfit]
    have hfa := fst0_le (D := D) ep
    go_enter Tryz.func13, Tryz.ntmps13
    go_wp2_with (first
      | (go_at_call 41; refine (half_any r D _ H.out).mono ?_; rintro e w2 ⟨rfl, rfl⟩)
      | (go_at_call 42; refine (cnt_any s.size _ HS.out).mono ?_; rintro e w2 ⟨rfl, rfl⟩))
    go_quiet (first | (refine Calls.quiet_of_same (first_any r D ep _ ?_); exact H.out.drewN _))
    have H3 : Hid (DevIs (w2.drewN nq) r D) := H.out.drewN nq
    have J3 : Hid (JIs (w2.drewN nq) B jb r.b vr ep u l) := HJ.out.drewN nq
    have hF3 : Fr w2 (w2.drewN nq) (fun k => r.foot k ∨ jfoot jb vr k) := (Fr.refl w2 _).drewN nq
    have F3 := Lib.hid hF3
    clear hF3 c0 c1 c2
    generalize w2.drewN nq = w3 at *
    have c0 := J3.out.c0
    have c2 := J3.out.c2
    obtain ⟨at_, hat⟩ : ∃ at_ : Nat, (fst0 D ep : Int) + u = at_ := ⟨fst0 D ep + u, by simp⟩
    have HAW : Hid (appW D ep u s = bodyW at_ s ++ ((if u + 1 + cnt s.size < hlf D then [(at_ + 1 + cnt s.size, (⟨#[]⟩ : ByteArray))] else []) ++ [(at_, headS s.size)])) := by
      have e1 : fst0 D ep + u = at_ := by omega
      show _ = _; unfold appW; rw [e1]
    have hat1 : at_ + 1 + cnt s.size ≤ D.now.length := by omega
    generalize fst0 D ep = a0 at *
    go_wp2_with fail
    refine (body_any r D jb at_ B vr ep u l s w3 H3.out J3.out hat1 HLG.out).mono ?_
    rintro e w4 ⟨rfl, r4, d4, k4⟩
    have D4 := Lib.hid d4
    have K4 := Lib.hid k4
    have hlen4 := wrs_len D (bodyW at_ s)
    rw [bodyW_len] at hlen4
    have J4 := Lib.hid (J3.out.step H3.out k4)
    have hr4 := k4.b
    clear d4 k4 c0 c2
    rcases hb4 : (wrs D (bodyW at_ s)).2 with _ | _
    · have HX : Hid (wrs D (appW D ep u s) = wrs D (bodyW at_ s)) := by
        show _ = _; rw [HAW.out, wrs_append, if_neg (by simp [hb4])]
      have HP : Hid (JPost r jb B vr (appendP ⟨D, ep, u, l⟩ s) w2 (.returned (.int .i64 20)) w4) := by
        show JPost _ _ _ _ _ _ _ _
        rw [HAP.out, HX.out, if_neg (by simp [hb4])]
        refine ⟨rfl, r4, vr, D4.out, J4.out, hr4, F3.out.trans (K4.out.fr.mono (fun _ _ h => Or.inl h)) (fun _ _ h => h), ?_, fun _ _ h => h⟩
        intro k hk hf
        exact K4.out.sub k (Nat.lt_of_lt_of_le hk F3.out.size) hf
      clear HX HAP HAW
      simp only [okE, Bool.false_eq_true, if_false]
      go_wp2_with fail
      go_ret
      exact HP.out
    · simp only [okE, if_true]
      have c0 := J4.out.c0
      have c2 := J4.out.c2
      have hlg4 : (wrs D (bodyW at_ s)).1.log.length ≤ 2000000 := by have := HLG.out; omega
      have HD4 : Hid (wrs D (bodyW at_ s) = ((wrs D (bodyW at_ s)).1, true)) := by show _ = _; rw [← hb4]
      obtain ⟨an, han⟩ : ∃ an : Nat, (at_ : Int) + (1 + (cnt s.size : Int)) = an := ⟨at_ + 1 + cnt s.size, by simp; omega⟩
      generalize hD4 : (wrs D (bodyW at_ s)).1 = D4' at *
      clear hD4 hb4
      by_cases hl3 : u + 1 + cnt s.size < hlf D
      focus
        have hl3' : (u : Int) + (1 + (cnt s.size : Int)) < (hlf D : Int) := by omega
        have HAW2 : Hid (wrs D (appW D ep u s) = wrs D4' ((an, (⟨#[]⟩ : ByteArray)) :: [(at_, headS s.size)])) := by
          have e1 : at_ + 1 + cnt s.size = an := by omega
          show _ = _; rw [HAW.out, if_pos hl3, wrs_append, if_pos (by rw [HD4.out]), HD4.out, e1]; rfl
        have han1 : an < D4'.now.length := by omega
        go_wp2_with fail
        rw [← hr4]
        refine (Wr_any r4 D4' an ⟨#[]⟩ w4 D4.out han1 (by decide) (by omega)).mono ?_
        rintro e w5 ⟨rfl, r5, d5, k5⟩
        have hlen5 := dwr_len D4' an (⟨#[]⟩ : ByteArray)
        have D5 := Lib.hid d5
        have J5 := Lib.hid (J4.out.step D4.out k5)
        have K5 := Lib.hid (K4.out.trans k5)
        have hr5 : r5.b = r.b := k5.b.trans hr4
        clear d5 k5 c0 c2
        rcases hb5 : (dwr D4' an (⟨#[]⟩ : ByteArray)).2 with _ | _
        focus
          have HX : Hid (wrs D (appW D ep u s) = dwr D4' an (⟨#[]⟩ : ByteArray)) := by
            show _ = _; rw [HAW2.out]; unfold wrs; rw [if_neg (by simp [hb5])]
          have HP : Hid (JPost r jb B vr (appendP ⟨D, ep, u, l⟩ s) w2 (.returned (.int .i64 20)) w5) := by
            show JPost _ _ _ _ _ _ _ _
            rw [HAP.out, HX.out, if_neg (by simp [hb5])]
            refine ⟨rfl, r5, vr, D5.out, J5.out, hr5, F3.out.trans (K5.out.fr.mono (fun _ _ h => Or.inl h)) (fun _ _ h => h), ?_, fun _ _ h => h⟩
            intro k hk hf
            exact K5.out.sub k (Nat.lt_of_lt_of_le hk F3.out.size) hf
          clear HX HAP HAW HAW2
          simp only [okE, Bool.false_eq_true, if_false]
          go_wp2_with fail
          go_ret
          exact HP.out
        have HAW5 : Hid (wrs D (appW D ep u s) = dwr (dwr D4' an (⟨#[]⟩ : ByteArray)).1 at_ (headS s.size)) := by
          show _ = _; rw [HAW2.out, wrs, if_pos (by simp [hb5]), wrs_one]
        generalize (dwr D4' an (⟨#[]⟩ : ByteArray)).1 = D5' at *
        have hlg5 : D5'.log.length ≤ 3000000 := by omega
        have hln5 : D5'.now.length = D.now.length := by omega
        have c0 := J5.out.c0
        clear HAW HAW2 D4 J4 K4 hlen4 hlg4 hr4 han1 hlen5 HD4 hb5
        simp only [okE, if_true]
        go_wp2_with fail
      rotate_left
      focus
        have hl3' : ¬ (u : Int) + (1 + (cnt s.size : Int)) < (hlf D : Int) := by omega
        have HAW5 : Hid (wrs D (appW D ep u s) = dwr D4' at_ (headS s.size)) := by
          show _ = _; rw [HAW.out, if_neg hl3, wrs_append, if_pos (by rw [HD4.out]), HD4.out]; exact wrs_one _ _ _
        go_wp2_with fail
        have D5 := D4
        have J5 := J4
        have K5 := K4
        have hr5 := hr4
        have hlg5 : D4'.log.length ≤ 3000000 := by omega
        have hln5 : D4'.now.length = D.now.length := by omega
        clear HAW D4 J4 K4 hlen4 hlg4 hr4 HD4 c2
        generalize D4' = D5' at *
        generalize w4 = w5 at *
        generalize r4 = r5 at *
      all_goals
        refine region_seq (fun w' => w'.cell? ⟨jb, 0, none⟩ = some (.pointer (some ⟨r.b, 0, none⟩))) []
          [(.p, 0), (.p, 1), (.p, 2), (.q, 3), (.p, 4), (.p, 5), (.l, 6), (.l, 7), (.p, 8)] (by kernel_rfl) (by kernel_rfl) (by kernel_rfl) (by kernel_rfl) (fun d v c a w h => by cases d <;> exact h) ?_
        have hS : w5.drew.cell? ⟨jb, 0, none⟩ = some (.pointer (some ⟨r.b, 0, none⟩)) := c0
        (refine seq_p (N := some 72) rfl rfl (by rfl) ?_ (fun w' => ?_) ?_
         rotate_left
         · go_simp
           with_reducible rfl
         simp only [Act.put, List.setIfInBounds_toArray, List.set_cons_zero, List.set_cons_succ])
        (refine seq_p (N := some 73) rfl rfl (by rfl) ?_ (fun w' => ?_) ?_
         rotate_left
         · go_simp
           with_reducible rfl
         simp only [Act.put, List.setIfInBounds_toArray, List.set_cons_zero, List.set_cons_succ])
        (refine seq_p (N := some 74) rfl rfl (by rfl) ?_ (fun w' => ?_) ?_
         rotate_left
         · go_simp
           with_reducible rfl
         simp only [Act.put, List.setIfInBounds_toArray, List.set_cons_zero, List.set_cons_succ])
        (refine seq_q (N := some 75) rfl rfl (by rfl) ?_ ?_ hS ?_
         rotate_left
         · rintro w' s1
           go_simp
           with_reducible rfl
         simp only [Act.put, List.setIfInBounds_toArray, List.set_cons_zero, List.set_cons_succ])
        (refine seq_p (N := some 76) rfl rfl (by rfl) ?_ (fun w' => ?_) ?_
         rotate_left
         · go_simp
           with_reducible rfl
         simp only [Act.put, List.setIfInBounds_toArray, List.set_cons_zero, List.set_cons_succ])
        (refine seq_p (N := some 77) rfl rfl (by rfl) ?_ (fun w' => ?_) ?_
         rotate_left
         · go_simp
           with_reducible rfl
         simp only [Act.put, List.setIfInBounds_toArray, List.set_cons_zero, List.set_cons_succ])
        refine seq_l rfl (by rfl) (wp_cl (N := some 78) (f := 45) (vs := #[.string s]) rfl rfl (by simp [Act.eval]) (callF Tryz.func45 rfl (by decide) _ _) ?_)
        refine (header_any s _ HS.out).mono ?_
        rintro e w6 ⟨rfl, b6⟩
        have b6' : Below w5.heap.size w5 w6 := ((Below.refl w5.heap.size w5).drew).trans (by exact b6)
        have D6 := Lib.hid (D5.out.below b6')
        have J6 := Lib.hid (J5.out.fr (Fr.of_below b6' Nowhere) (fun _ _ h => h))
        have K6 := Lib.hid (K5.out.trans (DStep.of_fr (Fr.of_below b6' _)))
        refine ⟨_, rfl, ?_⟩
        simp only [Act.put, List.setIfInBounds_toArray, List.set_cons_zero, List.set_cons_succ]
        refine ⟨fun _ => J6.out.c0, ?_⟩
        clear b6 b6'
        refine seq_l rfl (by rfl) (wp_cl (N := some 79) (f := 37) (vs := #[.pointer (some ⟨r5.b, 0, none⟩), .int .i64 at_, .string (headS s.size)]) rfl rfl (by simp [Act.eval, hr5]) (callF Tryz.func37 rfl (by decide) _ _) ?_)
        refine (Wr_any r5 D5' at_ (headS s.size) w6 D6.out (by omega) (headS_size _) (by omega)).mono ?_
        rintro e w7 ⟨rfl, r7, d7, k7⟩
        have D7 := Lib.hid d7
        have J7 := Lib.hid (J6.out.step D6.out k7)
        have K7 := Lib.hid (K6.out.trans k7)
        have hr7 : r7.b = r.b := k7.b.trans hr5
        refine ⟨_, rfl, ?_⟩
        simp only [Act.put, List.setIfInBounds_toArray, List.set_cons_zero, List.set_cons_succ]
        refine ⟨fun _ => J7.out.c0, ?_⟩
        clear d7 k7 hS c0
        (refine seq_p (N := some 11) rfl rfl (by rfl) ?_ (fun w' => ?_) ?_
         rotate_left
         · go_simp
           with_reducible rfl
         simp only [Act.put, List.setIfInBounds_toArray, List.set_cons_zero, List.set_cons_succ])
        refine seq_nil ?_
        rcases hb7 : (dwr D5' at_ (headS s.size)).2 with _ | _
        · have HP : Hid (JPost r jb B vr (appendP ⟨D, ep, u, l⟩ s) w2 (.returned (.int .i64 20)) w7) := by
            show JPost _ _ _ _ _ _ _ _
            rw [HAP.out, HAW5.out, if_neg (by simp [hb7])]
            refine ⟨rfl, r7, vr, D7.out, J7.out, hr7, F3.out.trans (K7.out.fr.mono (fun _ _ h => Or.inl h)) (fun _ _ h => h), ?_, fun _ _ h => h⟩
            intro k hk hf
            exact K7.out.sub k (Nat.lt_of_lt_of_le hk F3.out.size) hf
          clear HAP HAW5
          simp only [okE, Bool.false_eq_true, if_false]
          go_wp2_with fail
          go_ret
          exact HP.out
        · have HAP2 : Hid (appendP ⟨D, ep, u, l⟩ s = (⟨(dwr D5' at_ (headS s.size)).1, ep, u + 1 + cnt s.size, l ++ [s]⟩, true)) := by
            show _ = _; rw [HAP.out, HAW5.out, if_pos hb7]
          generalize (dwr D5' at_ (headS s.size)).1 = D7' at *
          clear HAP HAW5 hb7
          have e8 : (u : Int) + (1 + (cnt s.size : Int)) = ((u + 1 + cnt s.size : Nat) : Int) := by omega
          have E8 := Lib.hid e8
          have c2 := J7.out.c2
          have c3 := J7.out.c3
          have f2 := J7.out.fz 2
          have f3 := J7.out.fz 3
          have J8 : Hid (JIs (w7.setCell ⟨jb, 2, none⟩ (.int .i64 ((u : Int) + (1 + (cnt s.size : Int))))) B jb r.b vr ep (u + 1 + cnt s.size) l) := J7.out.put 2 _ (by rw [E8.out]; rfl) rfl
          have F8 : Hid (Fr w2 (w7.setCell ⟨jb, 2, none⟩ (.int .i64 ((u : Int) + (1 + (cnt s.size : Int))))) (fun k => r.foot k ∨ jfoot jb vr k)) :=
            (F3.out.trans (K7.out.fr.mono (fun _ _ h => Or.inl h)) (fun _ _ h => h)).setCell ⟨jb, 2, none⟩ _ (fun _ => .inr (.inl rfl))
          have D8 : Hid (DevIs (w7.setCell ⟨jb, 2, none⟩ (.int .i64 ((u : Int) + (1 + (cnt s.size : Int))))) r7 D7') :=
            D7.out.fr (S := fun k => k = jb) ((Fr.refl _ _).setCell ⟨jb, 2, none⟩ _ (fun _ => rfl)) (by rintro i hi rfl; exact jfoot_dev J7.out D7.out (.inl rfl) hi)
          simp only [okE, if_true]
          clear e8
          have hsz8 : (w7.setCell ⟨jb, 2, none⟩ (.int .i64 ((u : Int) + (1 + (cnt s.size : Int))))).heap.size = w7.heap.size := by simp
          have hB8 : B ≤ (w7.setCell ⟨jb, 2, none⟩ (.int .i64 ((u : Int) + (1 + (cnt s.size : Int))))).heap.size := Nat.le_trans HBB.out F8.out.size
          have HB8 := Lib.hid hB8
          clear hsz8 hB8
          go_wp2_with (
            at_builtin
            refine app1 rfl _ _ 22 9 (.string ⟨#[]⟩) 1 16 B [.string s] rfl Tryz.underlying22 info_str rfl (by omega) (by omega) vr l.length (l.map .string) (by rfl) (by simp [Act.eval]) rfl (by simp [Value.oneCell']) J8.out.hr HB8.out (by omega) ?_
            intro v9 w9 hown9 hg9 hat9
            have hne9 : vr.ownBlock ≠ some jb := fun e => own_ne J8.out.hr J8.out.hb (by decide) e rfl
            have g3 : w9.cell? ⟨jb, 3, none⟩ = some vr := (World.cell?_of_block (hg9.block _ J8.out.lt (fun e => hne9 e.symm))).trans J8.out.c3
            have h3 : w9.frozen? ⟨jb, 3, none⟩ = false := (World.frozen?_of_block (hg9.block _ J8.out.lt (fun e => hne9 e.symm))).trans (J8.out.fz 3)
            obtain ⟨ao, n', cap, rfl⟩ : ∃ ao n' cap, v9 = .slice ao n' cap := by
              rcases hown9.2 with ⟨hv, _⟩ | ⟨g, cap, cur, hv, _⟩
              · exact ⟨_, _, _, hv⟩
              · exact ⟨_, _, _, hv⟩
            have J9 := Lib.hid (J8.out.push s hg9 hown9)
            have F9 := Lib.hid ((F8.out.tr (Fr.grown hg9 (fun k hk _ => .inr (.inr hk)))).setCell ⟨jb, 3, none⟩ (.slice ao n' cap) (fun _ => .inr (.inl rfl)))
            have G9 := Lib.hid hg9
            have A9 := Lib.hid hat9
            have N9 := Lib.hid hne9
            clear hown9 hg9 hat9 hne9)
          go_ret
          show JPost _ _ _ _ _ _ _ _
          rw [HAP2.out]
          refine ⟨rfl, r7, .slice ao n' cap, ?_, J9.out, hr7, F9.out, ?_, ?_⟩
          · exact D8.out.fr (S := fun k => jfoot jb vr k) ((Fr.grown G9.out (fun k hk _ => .inr hk)).setCell ⟨jb, 3, none⟩ _ (fun _ => .inl rfl)) (fun i hi hj => jfoot_dev J8.out D8.out hj hi)
          · intro k hk hf
            exact K7.out.sub k (Nat.lt_of_lt_of_le hk F3.out.size) hf
          · intro k hk hf
            rcases hf with rfl | hf
            · exact .inl rfl
            · rcases A9.out with h9 | h9
              · exact .inr (h9 ▸ hf)
              · rw [h9] at hf
                have h8 := F8.out.size
                simp only [Option.some.injEq] at hf
                omega
end Go.Proofs.YtjflcpkmoamijaaGreatDoor
namespace Go.Proofs.YtjflcpkmoamijaaGreatDoor
open Go.RowKit
set_option linter.unusedVariables false
set_option linter.unusedSimpArgs false
set_option linter.unnecessarySimpa false

def ClonePost (l : List ByteArray) (w : World) (e : Ending) (w' : World) : Prop := ∃ v', e = .returned v' ∧ w'.ownsRow w.heap.size 9 1 v' l.length (l.map .string) ∧ Below w.heap.size w w'
theorem clone_any (v : Value) (l : List ByteArray) (w : World) (B : Nat) (h : w.ownsRow B 9 1 v l.length (l.map .string)) (hl : l.length ≤ 1000000) :
    Calls Tryz.prog 62 #[v] w (ClonePost l w) := by
  have h0 := h
  rcases h.2 with ⟨rfl, hn⟩ | ⟨g, cap, cur, rfl, _⟩
  · obtain rfl : l = [] := List.eq_nil_of_length_eq_zero hn
    refine (Tryz.slices_Clone_string_nil 0 0 w).mono ?_
    rintro e w' ⟨rfl, rfl⟩
    exact ⟨_, rfl, World.ownsRow_nil _ _ _ _, Below.refl _ _⟩
  · refine (Tryz.slices_Clone_string g 0 l.length cap l w (Nat.le_refl _) (by omega) ?_).mono ?_
    · intro j hj
      have := h0.cellAt j (by omega)
      rw [Nat.zero_add, this]
      simp [List.getD, List.getElem?_eq_getElem hj]
    · rintro e w' ⟨v', rfl, ho, _, hb⟩
      rw [List.take_length] at ho
      exact ⟨v', rfl, ho, hb⟩
set_option maxHeartbeats 400000 in
theorem JRecords_any (jb db B ep u : Nat) (vr : Value) (l : List ByteArray) (w : World) (hj : JIs w B jb db vr ep u l) (hl : l.length ≤ 1000000) :
    Calls Tryz.prog 29 #[.pointer (some ⟨jb, 0, none⟩)] w (ClonePost l w) := by
  have c3 := hj.c3
  have hc := Lib.hid (clone_any vr l w B hj.hr hl)
  clear hj
  go_enter Tryz.func29, Tryz.ntmps29
  go_wp2_with fail
  refine hc.out.mono ?_
  rintro e w2 ⟨v', rfl, ho, hb⟩
  have HO := Lib.hid ho
  have HB := Lib.hid hb
  clear ho hb
  go_wp2_with fail
  go_ret
  exact ⟨v', rfl, HO.out, HB.out⟩
end Go.Proofs.YtjflcpkmoamijaaGreatDoor
