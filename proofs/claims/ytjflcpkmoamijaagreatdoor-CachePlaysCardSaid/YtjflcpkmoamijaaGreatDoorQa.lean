import Derived.Test.YtjflcpkmoamijaaGreatDoorOp
namespace Go.Proofs.YtjflcpkmoamijaaGreatDoor
open Go.RowKit
set_option linter.unusedVariables false
set_option linter.unusedSimpArgs false
set_option linter.unnecessarySimpa false

/-! ### The reference's journal: blocks as strings -/
def bs (b : Blk) : ByteArray := ⟨b.toArray⟩
theorem bs_size (b : Blk) : (bs b).size = b.length := by simp [bs, ByteArray.size]
theorem own_strs {w : World} {B : Nat} {v : Value} {l : List ByteArray} (h : w.ownsRow B 9 1 v l.length (l.map .string)) : StrsAt w v l := by
  obtain ⟨ao, c, rfl⟩ := own_slice h
  refine ⟨⟨ao, c, rfl, fun h0 => ?_⟩, ?_⟩
  · obtain ⟨g, hg, _⟩ := strs_cell h (i := 0) (List.length_pos_iff.2 h0)
    exact ⟨g, 0, hg⟩
  · intro b o n c' hv j u hj
    injection hv with hv
    subst hv
    have hjl : j < l.length := by
      have := (List.getElem?_eq_some_iff.1 hj).1
      simpa using this
    obtain ⟨g, hg, hc⟩ := strs_cell h hjl
    injection hg with hg
    injection hg with h1 h2
    subst h1; subst h2
    rw [Nat.zero_add, hc, ← hj]
    simp [List.getElem?_eq_getElem hjl]
theorem RHalf_any (v : Value) (n : Nat) (w : World) (hv : ∃ ao c, v = .slice ao n c) (hn : n ≤ 1000000) (h1 : 1 ≤ n) :
    Calls Tryz.prog 95 #[v] w fun e w' => e = .returned (.int .i64 ((n - 1) / 2 : Nat)) ∧ w' = w := by
  obtain ⟨ao, c, rfl⟩ := hv
  have e1 : ((n : Int) - 1) / 2 = (((n - 1) / 2 : Nat) : Int) := by omega
  have E1 := Lib.hid e1
  clear e1
  go_enter Tryz.func95, Tryz.ntmps95
  go_wp2_with fail
  go_ret
  rw [E1.out]
  exact ⟨rfl, rfl⟩
theorem Rblocks_any (n : Nat) (w : World) (hn : n ≤ 140737488351232) :
    Calls Tryz.prog 96 #[.int .i64 n] w fun e w' => e = .returned (.int .i64 (cnt n)) ∧ w' = w := by
  have e1 : ((n : Int) + 64 - 1) / 64 = ((cnt n : Nat) : Int) := by unfold cnt; omega
  have E1 := Lib.hid e1
  clear e1
  go_enter Tryz.func96, Tryz.ntmps96
  go_wp2_with fail
  go_ret
  rw [E1.out]
  exact ⟨rfl, rfl⟩
theorem Rfirst_any (v : Value) (D : Dev) (ep : Nat) (w : World) (hv : ∃ ao c, v = .slice ao D.now.length c) (hn : D.now.length ≤ 1000000) (h1 : 1 ≤ D.now.length) (hep : ep ≤ 2147483647) :
    Calls Tryz.prog 97 #[v, .int .i64 ep] w fun e w' => e = .returned (.int .i64 (fst0 D ep)) ∧ w' = w := by
  have HH := Lib.hid (RHalf_any v D.now.length w hv hn h1)
  obtain ⟨ao, c, rfl⟩ := hv
  have hle : (D.now.length - 1) / 2 ≤ 500000 := by omega
  have e1 : fst0 D ep = if ep % 2 = 0 then 1 else 1 + (D.now.length - 1) / 2 := rfl
  have E1 := Lib.hid e1
  clear e1
  generalize (D.now.length - 1) / 2 = h at *
  by_cases hp : ep % 2 = 0
  · have hp' : (((ep : Int) % 2) == 0) = true := by
      rw [beq_iff_eq]; omega
    rw [if_pos hp] at E1
    clear hp
    go_enter Tryz.func97, Tryz.ntmps97
    go_wp2_with fail
    go_ret
    rw [E1.out]
    exact ⟨rfl, rfl⟩
  · have hp' : (((ep : Int) % 2) == 0) = false := by
      rw [beq_eq_false_iff_ne]; omega
    rw [if_neg hp] at E1
    clear hp
    go_enter Tryz.func97, Tryz.ntmps97
    go_wp2_with (refine HH.out.mono ?_; rintro e w2 ⟨rfl, rfl⟩)
    go_ret
    rw [E1.out]
    exact ⟨rfl, rfl⟩
theorem made_u8 (m : Nat) : madeCells (Value.int .u8 0).cells (m * 1) = (bvals (List.replicate m 0)).toArray := by
  apply Array.ext
  · simp [size_madeCells, bvals]
  · intro i h1 h2
    simp [madeCells, bvals, Value.cells, Nat.mod_one]
theorem make_u8 (m : Nat) (hm : m ≤ 1000000) (W : World) :
    (Instr.makeSlice 111 (.int .i64 m) (.int .i64 m)).run Tryz.prog W = .ok (.slice (some ⟨W.heap.size, 0, none⟩) m m) (W.alloc (.cells (bvals (List.replicate m 0)).toArray 5)) := by
  obtain ⟨i0, hi, hzz⟩ := Option.map_eq_some_iff.1 info_u8
  simp only [Prod.mk.injEq] at hzz
  obtain ⟨hz0, hz1, hz2⟩ := hzz
  have := run_make (P := Tryz.prog) W 111 5 i0 _ Tryz.underlying111 hi hz0 .i64 .i64 (m : Int) (m : Int) (by omega) (by omega) (by rw [hz2]; omega) (by omega)
  rw [hz1] at this
  simp only [Int.toNat_natCast, made_u8] at this
  exact this
theorem conv_u8 (w : World) (l : List UInt8) (hl : l.length ≤ 1000000) : (convert 111 9 (.slice (some ⟨w.heap.size, 0, none⟩) l.length l.length)).run Tryz.prog (w.alloc (.cells (bvals l).toArray 5)) = .ok (.string ⟨l.toArray⟩) (w.alloc (.cells (bvals l).toArray 5)) := by
  have h : (w.alloc (.cells (bvals l).toArray 5)).ownsRow w.heap.size 5 1 (.slice (some ⟨w.heap.size, 0, none⟩) l.length l.length) l.length (bvals l) :=
    ⟨by simp [bvals], .inr ⟨w.heap.size, l.length, _, rfl, Nat.le_refl _, heap_alloc_new w _, by simp [bvals], by unfold maxLen; omega, by simp [bvals], by simp [bvals, List.take_of_length_le]⟩⟩
  exact own_bytes 111 9 5 Tryz.underlying111 Tryz.underlying5 Tryz.underlying9 h
set_option maxHeartbeats 1000000 in
set_option maxRecDepth 100000 in
theorem RPad_any (s : ByteArray) (w : World) (hs : s.size ≤ 64) :
    Calls Tryz.prog 53 #[.string s] w fun e w' => e = .returned (.string (bs (padB s))) ∧ Below w.heap.size w w' := by
  obtain ⟨m, hm⟩ : ∃ m, 64 - s.size = m := ⟨_, rfl⟩
  have e1 : (64 : Int) - (s.size : Int) = (m : Int) := by omega
  have hm64 : m ≤ 64 := by omega
  have hP : bs (padB s) = s ++ (⟨(List.replicate m 0).toArray⟩ : ByteArray) := by
    apply bytes_ext
    unfold padB bs
    rw [hm]
    simp [ByteArray.toList_data_append]
  have HP := Lib.hid hP
  have hmk := make_u8 m (by omega) w
  have hcv := conv_u8 w (List.replicate m 0) (by simp; omega)
  rw [List.length_replicate] at hcv
  have b1 := (Below.refl w.heap.size w).alloc (Nat.le_refl _) (.cells (bvals (List.replicate m 0)).toArray 5)
  have B1 := Lib.hid b1
  have hZ : (⟨(List.replicate m 0).toArray⟩ : ByteArray).size ≤ 64 := by simp [ByteArray.size]; omega
  clear hP hm b1
  generalize (⟨(List.replicate m 0).toArray⟩ : ByteArray) = z at *
  go_enter Tryz.func53, Tryz.ntmps53
  go_wp2_with fail
  go_ret
  rw [HP.out]
  exact ⟨rfl, B1.out⟩
structure SInv (w wr : World) (v : Value) (acc : List ByteArray) : Prop where
  own : wr.ownsRow w.heap.size 9 1 v acc.length (acc.map .string)
  bel : Below w.heap.size w wr
theorem SInv.below {w wr w' : World} {v : Value} {l : List ByteArray} (h : SInv w wr v l) (b : Below wr.heap.size wr w') : SInv w w' v l :=
  ⟨(Fr.of_below b Nowhere).owns h.own (fun _ _ h => h), h.bel.trans (b.mono h.bel.size)⟩
theorem SInv.push {w wr w' : World} {v v' : Value} {l : List ByteArray} (h : SInv w wr v l) (s : ByteArray)
    (ho : w'.ownsRow w.heap.size 9 1 v' (l.length + 1) (l.map .string ++ [.string s])) (hg : wr.grownBy w' v.ownBlock) : SInv w w' v' (l ++ [s]) := by
  refine ⟨?_, h.bel.grown hg h.bel.size (fun j hj => (own_base' h.own hj).1)⟩
  rw [List.length_append, List.map_append]; exact ho
theorem SInv.nil (w : World) : SInv w w (.slice none 0 0) [] := ⟨World.ownsRow_nil _ _ _ _, Below.refl _ _⟩
set_option maxHeartbeats 1000000 in
set_option maxRecDepth 100000 in
theorem Rwith_any (v : Value) (L : List ByteArray) (i : Nat) (s : ByteArray) (w : World) (h : StrsAt w v L) (hl : L.length ≤ 1000000) (hi : i ≤ 1000000) (hs : s.size ≤ 64) :
    Calls Tryz.prog 52 #[v, .int .i64 i, .string s] w fun e w' => ∃ v', e = .returned v' ∧ w'.ownsRow w.heap.size 9 1 v' (L.set i (bs (padB s))).length ((L.set i (bs (padB s))).map .string) ∧ Below w.heap.size w w' := by
  obtain ⟨ao, c, rfl, hne⟩ := h.sl
  have H := Lib.hid h
  have I0 := Lib.hid (SInv.nil w)
  have HPAD := Lib.hid (fun w => RPad_any s w hs)
  have hML : (L.set i (bs (padB s))).length = L.length := List.length_set
  have HE : Hid (∀ k (hk : k < L.length), ∃ hk2 : k < (L.set i (bs (padB s))).length, (L.set i (bs (padB s)))[k] = if i = k then bs (padB s) else L[k]) := fun k hk => ⟨by rw [List.length_set]; exact hk, List.getElem_set _⟩
  have HML := Lib.hid hML
  clear h hne hML
  generalize L.set i (bs (padB s)) = M at *
  generalize bs (padB s) = p at *
  go_enter Tryz.func52, Tryz.ntmps52
  go_wp2_with fail
  go_loopw [7, 8] (fun ov kv wr => ∃ (k : Nat) (acc : List ByteArray), kv = .int .i64 k ∧ k ≤ L.length ∧ acc.length = k ∧ Hid (acc = M.take k) ∧ Hid (SInv w wr ov acc)) (fun _ kv _ => L.length - (intOf kv).toNat)
  case atStart => exact ⟨0, [], rfl, by omega, rfl, rfl, I0.out⟩
  case round =>
    obtain ⟨k, acc, rfl, hk, hacc, hA, hI⟩ := hrel
    have HACC := Lib.hid hacc
    have hal : acc.length ≤ 1000000 := by omega
    clear hacc
    by_cases hkc : k < L.length
    · have hkc' : (k : Int) < (L.length : Int) := by omega
      have Hr := H.out.fr (Fr.of_below hI.out.bel Nowhere) (fun _ _ h => h)
      obtain ⟨b, o, rfl, k0⟩ := Hr.nth hkc
      obtain ⟨hk2, hE⟩ := HE.out k hkc
      have hN : M.take (k + 1) = acc ++ [M[k]] := by rw [List.take_succ_eq_append_getElem hk2, hA.out]
      rw [hE] at hN
      clear hE Hr
      by_cases hki : i = k
      · have hki' : ((k : Int) == (i : Int)) = true := by rw [beq_iff_eq]; omega
        rw [if_pos hki] at hN
        have HN := Lib.hid hN
        clear hki hN
        go_wp2_with (first
          | (go_at_call 53; refine (HPAD.out _).mono ?_; rintro e w2 ⟨rfl, b2⟩; have I2 := Lib.hid (hI.out.below b2); clear b2)
          | (at_builtin
             refine app1 rfl _ _ 22 9 (.string ⟨#[]⟩) 1 16 w.heap.size [.string p] rfl Tryz.underlying22 info_str rfl (by omega) (by omega) _ acc.length (acc.map .string) (by rfl) (by simp [Act.eval]) rfl (by simp [Value.oneCell']) I2.out.own I2.out.bel.size (by omega) ?_
             intro v5 w5 hown hg hat
             have I5 := Lib.hid (I2.out.push p hown hg)
             clear hown hg hat))
        go_roundw
        case rel => exact ⟨k + 1, acc ++ [p], by go_num, by omega, by have := HACC.out; simp; omega, HN.out.symm, I5.out⟩
        case measure => simp [intOf]; omega
      · have hki' : ((k : Int) == (i : Int)) = false := by rw [beq_eq_false_iff_ne]; omega
        rw [if_neg hki] at hN
        have HN := Lib.hid hN
        clear hki hN
        generalize L[k] = q at *
        go_wp2_with (
             at_builtin
             refine app1 rfl _ _ 22 9 (.string ⟨#[]⟩) 1 16 w.heap.size [.string q] rfl Tryz.underlying22 info_str rfl (by omega) (by omega) _ acc.length (acc.map .string) (by rfl) (by simp [Act.eval]) rfl (by simp [Value.oneCell']) hI.out.own hI.out.bel.size (by omega) ?_
             intro v5 w5 hown hg hat
             have I5 := Lib.hid (hI.out.push q hown hg)
             clear hown hg hat)
        go_roundw
        case rel => exact ⟨k + 1, acc ++ [q], by go_num, by omega, by have := HACC.out; simp; omega, HN.out.symm, I5.out⟩
        case measure => simp [intOf]; omega
    · have hkc' : ¬ (k : Int) < (L.length : Int) := by omega
      have HM : Hid (acc = M) := by
        show _ = _
        rw [hA.out, List.take_of_length_le]
        rw [HML.out]; omega
      go_wp2_with fail
      go_ret
      have := HM.out
      subst this
      exact ⟨_, rfl, hI.out.own, hI.out.bel⟩
set_option maxHeartbeats 1000000 in
set_option maxRecDepth 100000 in
theorem RBlank_any (n : Nat) (w : World) (hn : n ≤ 1000000) :
    Calls Tryz.prog 19 #[.int .i64 n] w fun e w' => ∃ v', e = .returned v' ∧ w'.ownsRow w.heap.size 9 1 v' (List.replicate n (bs zeroBlk)).length ((List.replicate n (bs zeroBlk)).map .string) ∧ Below w.heap.size w w' := by
  have I0 := Lib.hid (SInv.nil w)
  have HPAD := Lib.hid (fun w => RPad_any ⟨#[]⟩ w (by decide))
  have hz : bs (padB ⟨#[]⟩) = bs zeroBlk := by kernel_rfl
  rw [hz] at HPAD
  clear hz
  generalize bs zeroBlk = p at *
  obtain ⟨R, hR⟩ : ∃ R, List.replicate n p = R := ⟨_, rfl⟩
  have HR := Lib.hid hR
  rw [hR]
  clear hR
  go_enter Tryz.func19, Tryz.ntmps19
  go_wp2_with fail
  go_loopw [3, 4] (fun ov kv wr => ∃ (k : Nat) (acc : List ByteArray), kv = .int .i64 k ∧ k ≤ n ∧ acc.length = k ∧ Hid (acc = List.replicate k p) ∧ Hid (SInv w wr ov acc)) (fun _ kv _ => n - (intOf kv).toNat)
  case atStart => exact ⟨0, [], rfl, by omega, rfl, rfl, I0.out⟩
  case round =>
    obtain ⟨k, acc, rfl, hk, hacc, hA, hI⟩ := hrel
    have HACC := Lib.hid hacc
    have hal : acc.length ≤ 1000000 := by omega
    clear hacc
    by_cases hkc : k < n
    · have hkc' : (k : Int) < (n : Int) := by omega
      have HN : Hid (acc ++ [p] = List.replicate (k + 1) p) := by
        show _ = _
        rw [hA.out, List.replicate_succ']
      go_wp2_with (first
          | (go_at_call 53; refine (HPAD.out _).mono ?_; rintro e w2 ⟨rfl, b2⟩; have I2 := Lib.hid (hI.out.below b2); clear b2)
          | (at_builtin
             refine app1 rfl _ _ 22 9 (.string ⟨#[]⟩) 1 16 w.heap.size [.string p] rfl Tryz.underlying22 info_str rfl (by omega) (by omega) _ acc.length (acc.map .string) (by rfl) (by simp [Act.eval]) rfl (by simp [Value.oneCell']) I2.out.own I2.out.bel.size (by omega) ?_
             intro v5 w5 hown hg hat
             have I5 := Lib.hid (I2.out.push p hown hg)
             clear hown hg hat))
      go_roundw
      case rel => exact ⟨k + 1, acc ++ [p], by go_num, by omega, by have := HACC.out; simp; omega, HN.out, I5.out⟩
      case measure => simp [intOf]; omega
    · have hkc' : ¬ (k : Int) < (n : Int) := by omega
      obtain rfl : k = n := by omega
      go_wp2_with fail
      go_ret
      have ho := hI.out.own
      rw [hA.out, HR.out] at ho
      exact ⟨_, rfl, ho, hI.out.bel⟩
/-- What a slice of blocks holds, taken from a row of the function's own. -/
theorem RFormat_short (v : Value) (n : Nat) (w : World) (hv : ∃ ao c, v = .slice ao n c) (hn : n < 5) :
    Calls Tryz.prog 18 #[v] w fun e w' => e = .returned (.tuple #[v, .int .i64 12]) ∧ w' = w := by
  obtain ⟨ao, c, rfl⟩ := hv
  have hn' : (n : Int) < 5 := by omega
  go_enter Tryz.func18, Tryz.ntmps18
  go_wp2_with fail
  go_ret2
  exact ⟨rfl, rfl⟩
set_option maxHeartbeats 1000000 in
set_option maxRecDepth 100000 in
theorem RFormat_any (v : Value) (L : List ByteArray) (w : World) (h : StrsAt w v L) (hl : L.length ≤ 1000000) (h5 : 5 ≤ L.length) :
    Calls Tryz.prog 18 #[v] w fun e w' => ∃ v', e = .returned (.tuple #[v', .int .i64 0]) ∧ Below w.heap.size w w' ∧ StrsAt w' v' ((L.set 1 (bs (padB ⟨#[]⟩))).set 0 (bs (padB (rootS 0)))) ∧ ∀ k, v'.ownBlock = some k → w.heap.size ≤ k ∧ k < w'.heap.size := by
  have H1 := Lib.hid (Rwith_any v L 1 ⟨#[]⟩ w h hl (by omega) (by decide))
  obtain ⟨ao, c, rfl, hne⟩ := h.sl
  have h5' : ¬ (L.length : Int) < 5 := by omega
  have hlen : (L.set 1 (bs (padB ⟨#[]⟩))).length ≤ 1000000 := by rw [List.length_set]; exact hl
  have hr : rootS 0 = ⟨#[77, 65, 80, 74, 0]⟩ := by kernel_rfl
  rw [hr]
  clear h hne
  generalize L.set 1 (bs (padB ⟨#[]⟩)) = M at *
  go_enter Tryz.func18, Tryz.ntmps18
  go_wp2_with fail
  refine H1.out.mono ?_
  rintro e w2 ⟨v2, rfl, o2, b2⟩
  have B2 := Lib.hid b2
  have H2 := Lib.hid (Rwith_any v2 M 0 ⟨#[77, 65, 80, 74, 0]⟩ w2 (own_strs o2) hlen (by omega) (by decide))
  clear o2 b2
  go_wp2_with fail
  refine H2.out.mono ?_
  rintro e w3 ⟨v3, rfl, o3, b3⟩
  have B3 := Lib.hid (B2.out.trans (b3.mono B2.out.size))
  have O3 := Lib.hid o3
  clear o3 b3
  go_wp2_with fail
  go_ret2
  exact ⟨_, rfl, B3.out, own_strs O3.out, fun k hk => by have h1 := own_base' O3.out hk; have h2 := B2.out.size; omega⟩
end Go.Proofs.YtjflcpkmoamijaaGreatDoor
