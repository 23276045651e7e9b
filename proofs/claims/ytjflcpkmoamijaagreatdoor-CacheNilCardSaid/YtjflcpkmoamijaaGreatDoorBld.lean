import Derived.Test.YtjflcpkmoamijaaGreatDoorShelf
import Derived.Test.YtjflcpkmoamijaaGreatDoorPut
import Derived.Lib.AppendStr
namespace Go.Proofs.YtjflcpkmoamijaaGreatDoor
open Go.RowKit
set_option linter.unusedVariables false
set_option linter.unusedSimpArgs false
set_option linter.unnecessarySimpa false

theorem size_bld : (Tryz.prog.info? 116).map (·.size) = some 2 := by kernel_rfl
theorem lies_bld : liesAt Tryz.prog Tryz.prog.depth 116 (2 / Tryz.prog.cellsOf 116) 0 116 1 = true := by kernel_rfl

set_option maxHeartbeats 400000 in
set_option maxRecDepth 100000 in
theorem copyCheck_used (b : Nat) (w : World) (h0 : w.cell? ⟨b, 0, none⟩ = some (.pointer (some ⟨b, 0, none⟩))) :
    Calls Tryz.prog 106 #[.pointer (some ⟨b, 0, none⟩)] w fun e w' => e = .returned (.tuple #[]) ∧ w' = w := by
  obtain ⟨j, hj, _⟩ := Option.map_eq_some_iff.1 size_bld
  go_enter Tryz.func106, Tryz.ntmps106
  go_wp2_with fail
  rw [Lib.run_neq_ptr_same w _ Tryz.underlying114 hj]
  go_wp2_with fail
  go_end0
  exact ⟨rfl, rfl⟩

set_option maxHeartbeats 400000 in
set_option maxRecDepth 100000 in
theorem copyCheck_fresh (b : Nat) (w : World) (h0 : w.cell? ⟨b, 0, none⟩ = some (.pointer none)) (hsh : w.shape? b = some (116, 2)) (hfz : w.frozen? ⟨b, 0, none⟩ = false) :
    Calls Tryz.prog 106 #[.pointer (some ⟨b, 0, none⟩)] w fun e w' => e = .returned (.tuple #[]) ∧ w' = w.setCell ⟨b, 0, none⟩ (.pointer (some ⟨b, 0, none⟩)) := by
  obtain ⟨j, hj, hjs⟩ := Option.map_eq_some_iff.1 size_bld
  go_enter Tryz.func106, Tryz.ntmps106
  go_wp2_with fail
  rw [Lib.run_to_unsafe w ⟨b, 0, none⟩ Tryz.underlying114 Tryz.underlying182 hj (by rw [hjs]; decide) hsh (Nat.zero_lt_succ 1)]
  simp only [Result.andThen]
  rw [Oper.upon_value]
  go_wp2_with fail
  rw [run_callFunc_extern Tryz.func136 (by kernel_rfl) (by kernel_rfl) (by kernel_rfl) (e := Extern.AbiNoEscape.same) (by kernel_rfl)]
  rw [Lib.run_noEscape]
  simp only [Result.andThen]
  rw [Oper.upon_value]
  go_wp2_with fail
  rw [Lib.run_from_unsafe w ⟨b, 0, none⟩ Tryz.underlying182 Tryz.underlying114 hj hsh lies_bld]
  simp only [Result.andThen]
  rw [Oper.upon_value]
  go_wp2_with fail
  go_end0
  exact ⟨rfl, rfl⟩

theorem copyCheck_any (B b : Nat) (bs : List Value) (w : World) (h : Lib.IsBuilder 116 5 B b bs w) :
    Calls Tryz.prog 106 #[.pointer (some ⟨b, 0, none⟩)] w fun e w' => e = .returned (.tuple #[]) ∧ (Lib.BuilderAt 116 5 B b (.pointer (some ⟨b, 0, none⟩)) bs w' ∧ Below B w w') := by
  rcases h with h | h
  · refine (copyCheck_fresh b w h.cell0 h.shape h.frozen0).mono ?_
    rintro e w' ⟨rfl, rfl⟩
    exact ⟨rfl, h.used _, (Below.refl B w).setCell (p := ⟨b, 0, none⟩) h.1 _⟩
  · refine (copyCheck_used b w h.cell0).mono ?_
    rintro e w' ⟨rfl, rfl⟩
    exact ⟨rfl, h, Below.refl B _⟩

set_option maxHeartbeats 400000 in
set_option maxRecDepth 100000 in
theorem WriteString_any (B b : Nat) (bs : List Value) (s : ByteArray) (w : World) (h : Lib.IsBuilder 116 5 B b bs w) (hlen : bs.length + s.size ≤ 140737488355328) (hBw : B ≤ w.heap.size) :
    Calls Tryz.prog 72 #[.pointer (some ⟨b, 0, none⟩), .string s] w fun e w' => e = .returned (.tuple #[.int .i64 s.size, .nilIface]) ∧ (Lib.BuilderAt 116 5 B b (.pointer (some ⟨b, 0, none⟩)) (bs ++ Lib.strCells s) w' ∧ Below B w w') := by
  obtain ⟨i0, hi0, hz0, hz1, hz2⟩ := info_parts info_u8
  go_enter Tryz.func72, Tryz.ntmps72
  go_wp2_with fail
  refine (copyCheck_any B b bs _ h).mono ?_
  rintro e w2 ⟨rfl, ⟨hB, v, hb, hown, hne⟩, hbel⟩
  have c1 : w2.cell? ⟨b, 1, none⟩ = some v := cell_of_row w2 _ 1 _ _ _ hb
  have f1 : w2.frozen? ⟨b, 1, none⟩ = false := frozen_of_row w2 _ 1 _ _ hb
  have lb := lt_of_heap hb
  have HO := Lib.hid hown
  have HB := Lib.hid hbel
  have HH := Lib.hid hb
  have HN := Lib.hid hne
  clear hown hbel hb hne h
  go_wp2_with (
    at_builtin
    refine Lib.wpList_append_own_string w2 rfl _ _ 111 9 rfl B 5 i0 Tryz.underlying111 Tryz.underlying9 hi0 hz0 hz1 hz2 v bs.length bs (by rfl) HO.out s rfl (by unfold maxLen; omega) hlen (Nat.le_trans hBw HB.out.size) ?_
    intro v3 w3 hown3 hg3 _
    have HO3 := Lib.hid hown3; have HG3 := Lib.hid hg3
    clear hown3 hg3
    have hb2 := (HG3.out.block b lb (fun e => HN.out e.symm)).trans HH.out
    have d1 : w3.cell? ⟨b, 1, none⟩ = some v := cell_of_row w3 _ 1 _ _ _ hb2
    have e1 : w3.frozen? ⟨b, 1, none⟩ = false := frozen_of_row w3 _ 1 _ _ hb2
    have HH2 := Lib.hid hb2
    clear hb2
    obtain ⟨ao, n', cap, rfl⟩ : ∃ ao n' cap, v3 = .slice ao n' cap := by
      rcases HO3.out.2 with ⟨hv, _⟩ | ⟨g, cap, cur, hv, _⟩
      · exact ⟨_, _, _, hv⟩
      · exact ⟨_, _, _, hv⟩)
  go_ret2
  refine ⟨rfl, Lib.BuilderAt.put (T := 116) (e := 5) hB HH2.out (bs' := bs ++ Lib.strCells s) (by simpa [Lib.strCells_length] using HO3.out) (by decide), ?_⟩
  exact (HB.out.grown HG3.out (Nat.le_trans hBw HB.out.size) (fun k hk => (HO.out.lt k hk).1)).setCell (p := ⟨b, 1, none⟩) hB _
end Go.Proofs.YtjflcpkmoamijaaGreatDoor
