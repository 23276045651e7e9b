import Derived.Test.YtjflcpkmoamijaaGreatDoorQa
namespace Go.Proofs.YtjflcpkmoamijaaGreatDoor
open Go.RowKit
set_option linter.unusedVariables false
set_option linter.unusedSimpArgs false
set_option linter.unnecessarySimpa false

/-! ### The reference's numbers and roots -/
theorem dropW_nil (p : UInt8 → Bool) : ∀ l : List UInt8, l.dropWhile p = [] → ∀ b ∈ l, p b = true
  | [], _, b, hb => by cases hb
  | x :: l, h, b, hb => by
    rw [List.dropWhile_cons] at h
    split at h
    · rename_i hx
      rcases List.mem_cons.1 hb with rfl | hb
      · exact hx
      · exact dropW_nil p l h b hb
    · cases h
theorem dropW_all (p : UInt8 → Bool) : ∀ l : List UInt8, (∀ b ∈ l.dropWhile p, p b = true) → l.dropWhile p = []
  | [], _ => rfl
  | x :: l, h => by
    rw [List.dropWhile_cons] at h ⊢
    split
    · rename_i hx
      rw [if_pos hx] at h
      exact dropW_all p l h
    · rename_i hx
      rw [if_neg hx] at h
      exact absurd (h x List.mem_cons_self) hx
theorem trimB_nil {l : List UInt8} (h : Lib.trimB l 0 = []) : ∀ b ∈ l, b = 0 := by
  unfold Lib.trimB Lib.trimRightB Lib.trimLeftB at h
  have h1 := dropW_nil _ _ h
  have h2 := dropW_all (· == (0 : UInt8)) l.reverse (fun b hb => h1 b (List.mem_reverse.2 hb))
  intro b hb
  have := dropW_nil _ _ h2 b (List.mem_reverse.2 hb)
  simpa using this
theorem numJ_some {s : ByteArray} {most n : Nat} (h : numJ s most = some n) : ∃ a, uintM s 0 0 = ((n : Int), a, 0) ∧ n ≤ most ∧ a ≤ s.size ∧ ∀ i (hi : i < s.size), a ≤ i → s[i] = 0 := by
  unfold numJ at h
  split at h
  · rename_i hc
    injection h with h
    have hr := uintM_range s 0
    have hle := uintM_le (err := 0) (Nat.zero_le s.size)
    generalize uintM s 0 0 = x at *
    obtain ⟨v, a, e⟩ := x
    simp only at hc h hr hle
    obtain ⟨rfl, hm, ht⟩ := hc
    have hv : (n : Int) = v := by have := hr.1; omega
    subst hv
    refine ⟨a, rfl, by omega, hle, fun i hi hai => ?_⟩
    have h1 := trimB_nil ht
    refine h1 _ ?_
    rw [extract_list]
    have h2 : (s.data.toList.drop a).take (s.size - a) = s.data.toList.drop a := List.take_of_length_le (by simp)
    rw [h2]
    have h3 : s[i] = s.data.toList[i]'(by simpa using hi) := rfl
    rw [h3]
    refine List.mem_iff_getElem.2 ⟨i - a, by simp; omega, ?_⟩
    rw [List.getElem_drop]
    congr 1
    omega
  · cases h
set_option maxHeartbeats 1000000 in
set_option maxRecDepth 100000 in
theorem Rnumber_any (s : ByteArray) (most n : Nat) (w : World) (hs : s.size ≤ 140737488351232) (hm : most ≤ 140737488351232) (h : numJ s most = some n) :
    Calls Tryz.prog 116 #[.string s, .int .i64 most] w fun e w' => e = .returned (.tuple #[.int .i64 n, .bool true]) ∧ Below w.heap.size w w' := by
  obtain ⟨a, hu, hnm, ha, hz⟩ := numJ_some h
  have HR := Lib.hid (RRead_any s w)
  have HU : Hid (∀ w, Calls Tryz.prog 112 #[.agg #[.string s, .int .i64 0, .int .i64 0]] w fun e w' => e = .returned (.tuple #[.agg #[.string s, .int .i64 a, .int .i64 0], .int .u64 n]) ∧ Below w.heap.size w w') := by
    intro w
    have := RUint_any s 0 0 w hs (Nat.zero_le _)
    rw [hu] at this
    exact this
  have HZ := Lib.hid hz
  have hw : IntKind.u64.wrap (most : Int) = ((most : Nat) : Int) := by rw [wrap_u64']; omega
  have hnm' : ¬ (most : Int) < (n : Int) := by omega
  clear h hu hz
  go_enter Tryz.func116, Tryz.ntmps116
  go_wp2_with fail
  refine HR.out.mono ?_
  rintro e w1 ⟨rfl, b1⟩
  have B1 := Lib.hid b1
  clear b1
  unfold rdv
  go_wp2_with fail
  refine (HU.out w1).mono ?_
  rintro e w2 ⟨rfl, b2⟩
  have B2 := Lib.hid (B1.out.trans (b2.mono B1.out.size))
  clear b2
  have b3 := B2.out.alloc B2.out.size (.cells #[.string s, .int .i64 a, .int .i64 0] 126)
  have B3 := Lib.hid b3
  clear b3
  go_wp2_with fail
  generalize w2.alloc (.cells #[.string s, .int .i64 a, .int .i64 0] 126) = w3 at *
  go_loopw [8] (fun iv wr => ∃ i : Nat, iv = .int .i64 i ∧ i ≤ s.size ∧ a ≤ i ∧ wr = w3) (fun iv _ => s.size - (intOf iv).toNat)
  case atStart => exact ⟨a, rfl, ha, Nat.le_refl _, rfl⟩
  case round =>
    obtain ⟨i, rfl, hi, hai, hw3⟩ := hrel
    subst hw3
    by_cases hic : i < s.size
    · have hic' : (i : Int) < (s.size : Int) := by omega
      have hb := HZ.out i hic hai
      have hb0 : ((s[i].toNat : Int) == 0) = true := by rw [hb]; rfl
      clear hb
      go_wp2_with fail
      go_roundw
      case rel => exact ⟨i + 1, by go_num, by omega, by omega, by first | rfl | trivial⟩
      case measure => simp [intOf]; omega
    · have hic' : ¬ (i : Int) < (s.size : Int) := by omega
      go_wp2_with fail
      go_ret2
      exact ⟨rfl, B3.out⟩
/-- What a slice of a device's blocks holds. -/
def BksAt (w : World) (v : Value) (D : Dev) : Prop := StrsAt w v (D.now.map bs)
theorem BksAt.fr {w w' : World} {v : Value} {D : Dev} {S : Nat → Prop} (h : BksAt w v D) (k : Fr w w' S) (hn : ∀ b, v.ownBlock = some b → ¬ S b) : BksAt w' v D := StrsAt.fr h k hn
theorem BksAt.below {w w' : World} {v : Value} {D : Dev} (h : BksAt w v D) (k : Below w.heap.size w w') : BksAt w' v D := h.fr (Fr.of_below k Nowhere) (fun _ _ h => h)
theorem BksAt.sl {w : World} {v : Value} {D : Dev} (h : BksAt w v D) : ∃ ao c, v = .slice ao D.now.length c := by
  obtain ⟨ao, c, e, _⟩ := StrsAt.sl h
  rw [List.length_map] at e
  exact ⟨ao, c, e⟩
theorem BksAt.nth {w : World} {ao : Option Addr} {n c : Nat} {D : Dev} (h : BksAt w (.slice ao n c) D) {i : Nat} (hi : i < D.now.length) : ∃ b o, ao = some ⟨b, o, none⟩ ∧ w.cell? ⟨b, o + i, none⟩ = some (.string (blkS D i)) := by
  obtain ⟨b, o, h1, h2⟩ := StrsAt.nth (l := D.now.map bs) h (i := i) (by rw [List.length_map]; exact hi)
  refine ⟨b, o, h1, ?_⟩
  rw [h2, List.getElem_map]
  unfold blkS blkAt bs
  rw [List.getD_eq_getElem?_getD, List.getElem?_eq_getElem hi]
  rfl
/-- A device whose journal can be read, its blocks of the right size. -/
structure Rd (D : Dev) (ep u : Nat) (l : List ByteArray) : Prop where
  p : parseP D = some (ep, u, l)
  h5 : 5 ≤ D.now.length
  ht : D.now.length ≤ 65536
  n64 : ∀ b ∈ D.now, b.length = 64
theorem Rd.size {D : Dev} {ep u : Nat} {l : List ByteArray} (h : Rd D ep u l) {i : Nat} (hi : i < D.now.length) : (blkS D i).size = 64 := by
  have h64 := h.n64 _ (List.getElem_mem hi)
  simp [blkS, blkAt, List.getD, List.getElem?_eq_getElem hi, ByteArray.size, h64]
theorem prefix4 {s : ByteArray} (h : Lib.hasPrefix s.data.toList [77, 65, 80, 74] = true) (h4 : 4 ≤ s.size) : s.extract 0 4 = ⟨#[77, 65, 80, 74]⟩ := by
  have h1 := List.isPrefixOf_iff_prefix.1 h
  obtain ⟨t, ht⟩ := h1
  apply bytes_ext
  rw [extract_list, ← ht]
  simp
set_option maxHeartbeats 1000000 in
set_option maxRecDepth 100000 in
theorem REpoch_any (v : Value) {D : Dev} {ep u : Nat} {l : List ByteArray} (w : World) (h : BksAt w v D) (hd : Rd D ep u l) :
    Calls Tryz.prog 94 #[v] w fun e w' => e = .returned (.tuple #[.int .i64 ep, .bool true]) ∧ Below w.heap.size w w' := by
  have hsz := hd.size (i := 0) (by have := hd.h5; omega)
  have hp := parse_iff.1 hd.p
  have hpre := prefix4 hp.1 (by omega)
  have hl0 : (0 : Int) < (D.now.length : Int) := by have := hd.h5; omega
  obtain ⟨ao, c, rfl⟩ := h.sl
  obtain ⟨b, o, rfl, k0⟩ := h.nth (i := 0) (by omega)
  have HN := Lib.hid (fun w hs hm => Rnumber_any ((blkS D 0).extract 4 64) 2147483647 ep w hs hm hp.2.1)
  clear hp h hd
  generalize blkS D 0 = s at *
  rw [Nat.add_zero] at k0
  go_enter Tryz.func94, Tryz.ntmps94
  go_wp2_with fail
  refine (HN.out w (by simp; omega) (by omega)).mono ?_
  rintro e w2 ⟨rfl, b2⟩
  have B2 := Lib.hid b2
  clear b2
  go_wp2_with fail
  go_ret2
  exact ⟨rfl, B2.out⟩
end Go.Proofs.YtjflcpkmoamijaaGreatDoor
