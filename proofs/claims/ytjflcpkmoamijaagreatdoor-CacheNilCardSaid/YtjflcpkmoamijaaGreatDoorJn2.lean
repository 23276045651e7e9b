import Derived.Test.YtjflcpkmoamijaaGreatDoorJn1
import Derived.Lib.TrimByte
import Derived.WalkLawsBesides
namespace Go.Proofs.YtjflcpkmoamijaaGreatDoor
open Go.RowKit
set_option linter.unusedVariables false
set_option linter.unusedSimpArgs false
set_option linter.unnecessarySimpa false

theorem below_drewN {B : Nat} {w w' : World} (h : Below B w w') (n : Nat) : Below B w (w'.drewN n) := ⟨h.os, h.tape, h.output, h.size, h.block⟩
def numJ (s : ByteArray) (most : Nat) : Option Nat :=
  if (uintM s 0 0).2.2 = 0 ∧ (uintM s 0 0).1 ≤ most ∧ Lib.trimB (s.extract (uintM s 0 0).2.1 s.size).data.toList 0 = [] then some (uintM s 0 0).1.toNat else none
def badForm : List PanicEntry := [{ v := .iface 75 (.agg #[]), recovered := false }]
def NumPost (o : Option Nat) (w : World) (e : Ending) (w' : World) : Prop :=
  (match o with | some n => e = .returned (.int .i64 n) | none => e = .panicked badForm) ∧ Below w.heap.size w w'
theorem uintM_range (s : ByteArray) (a : Nat) : InU64 (uintM s a 0).1 := by
  unfold uintM
  have := uintR_range s a
  split
  · split
    · exact this
    · exact ⟨Int.le_refl _, (by decide : (0:Int) < 18446744073709551616)⟩
  · exact ⟨Int.le_refl _, (by decide : (0:Int) < 18446744073709551616)⟩
set_option maxHeartbeats 1000000 in
set_option maxRecDepth 100000 in
theorem number_any (s : ByteArray) (most : Nat) (w : World) (hs : s.size ≤ 140737488351232) (hm : most ≤ 140737488351232) :
    Calls Tryz.prog 71 #[.string s, .int .i64 most] w (NumPost (numJ s most) w) := by
  have hz : IntKind.u64.wrap (most : Int) = ((most : Nat) : Int) := by rw [wrap_u64']; omega
  have hr := uintM_range s 0
  have hle := uintM_le (err := 0) (Nat.zero_le s.size)
  have hnum : numJ s most = if (uintM s 0 0).2.2 = 0 ∧ (uintM s 0 0).1 ≤ most ∧ Lib.trimB (s.extract (uintM s 0 0).2.1 s.size).data.toList 0 = [] then some (uintM s 0 0).1.toNat else none := rfl
  generalize numJ s most = o at *
  have HU : ∀ (g : Nat) (w : World), IsRd w g s 0 0 → Calls Tryz.prog 103 #[.pointer (some ⟨g, 0, none⟩)] w (RdPost g s (uintM s 0 0).2 w (.int .u64 (uintM s 0 0).1)) := fun g w h => Uint_any g s 0 0 w hs (Nat.zero_le _) h
  generalize uintM s 0 0 = x at *
  obtain ⟨n, a, er⟩ := x
  simp only at hr hle hnum HU
  have HS := Lib.hid hs
  have HM := Lib.hid hm
  have HR := Lib.hid hr
  have HN := Lib.hid hnum
  clear hs hm hr hnum
  go_enter Tryz.func71, Tryz.ntmps71
  go_wp2_with fail
  refine (Read_any s _).mono ?_
  rintro e w2 ⟨rfl, r2, b2⟩
  have R2 := Lib.hid r2
  have B2 := Lib.hid b2
  clear r2 b2
  go_wp2_with fail
  refine (HU _ _ R2.out).mono ?_
  rintro e w3 ⟨rfl, r3, f3⟩
  have b3 : Below w.heap.size w w3 := B2.out.trans (f3.below B2.out.size (by rintro i rfl; omega))
  have R3 := Lib.hid r3
  have B3 := Lib.hid b3
  clear r3 f3 b3 R2 B2 w2
  have hE := Err_any _ _ _ _ _ R3.out
  by_cases h1 : er = 0
  · subst h1
    by_cases h2 : n ≤ most
    · have g2 : ¬ ((most : Int) < n) := by omega
      have g3 : wrap64 ((s.size : Int) - ((s.size : Int) - (a : Int))) = (a : Int) := by have := HS.out; unfold wrap64; omega
      by_cases h3 : Lib.trimB (s.extract a s.size).data.toList 0 = []
      · have ho : o = some n.toNat := by rw [HN.out, if_pos ⟨rfl, h2, h3⟩]
        subst ho
        clear HN
        have hn : wrap64 n = (n.toNat : Int) := by have := HR.out.1; have := HM.out; unfold wrap64; omega
        have HT := fun w => Tryz.strings_Trim_one (s.extract a s.size) 0 (by decide) w (by have := HS.out; simp only [ByteArray.size_extract]; omega)
        rw [h3] at HT
        go_wp2_with (first
          | (refine hE.mono ?_; rintro e w4 ⟨rfl, rfl⟩)
          | (refine (Left_any _ _ _ _ _ HS.out hle R3.out).mono ?_; rintro e w5 ⟨rfl, k5, rfl⟩)
          | (refine (HT _).mono ?_; rintro e w6 ⟨rfl, hw6⟩; have b6 : Below w.heap.size w w6 := (by rcases hw6 with rfl | rfl; exact below_drewN B3.out _; exact (below_drewN B3.out _).drew); have B6 := Lib.hid b6; clear b6 hw6))
        go_ret
        rw [hn]
        exact ⟨rfl, B6.out⟩
      · have ho : o = none := by rw [HN.out, if_neg (fun h => h3 h.2.2)]
        subst ho
        clear HN
        generalize hl : Lib.trimB (s.extract a s.size).data.toList 0 = l at h3
        have hle0 : l.isEmpty = false := by simpa using h3
        have HT := fun w => Tryz.strings_Trim_one (s.extract a s.size) 0 (by decide) w (by have := HS.out; simp only [ByteArray.size_extract]; omega)
        rw [hl] at HT
        go_wp2_with (first
          | (refine hE.mono ?_; rintro e w4 ⟨rfl, rfl⟩)
          | (refine (Left_any _ _ _ _ _ HS.out hle R3.out).mono ?_; rintro e w5 ⟨rfl, k5, rfl⟩)
          | (refine (HT _).mono ?_; rintro e w6 ⟨rfl, hw6⟩; have b6 : Below w.heap.size w w6 := (by rcases hw6 with rfl | rfl; exact below_drewN B3.out _; exact (below_drewN B3.out _).drew); have B6 := Lib.hid b6; clear b6 hw6))
        exact ⟨rfl, rfl, B6.out⟩
    · have g2 : ((most : Int) < n) := by omega
      have ho : o = none := by rw [HN.out, if_neg (fun h => h2 h.2.1)]
      subst ho
      clear HN
      go_wp2_with (refine hE.mono ?_; rintro e w4 ⟨rfl, rfl⟩)
      exact ⟨rfl, rfl, B3.out⟩
  · have ho : o = none := by rw [HN.out, if_neg (fun h => h1 h.1)]
    subst ho
    clear HN
    go_wp2_with (refine hE.mono ?_; rintro e w4 ⟨rfl, rfl⟩)
    exact ⟨rfl, rfl, B3.out⟩
end Go.Proofs.YtjflcpkmoamijaaGreatDoor
