import Derived.Test.YtjflcpkmoamijaaGreatDoorSb
namespace Go.Proofs.YtjflcpkmoamijaaGreatDoor
open Go.RowKit
set_option linter.unusedVariables false
set_option linter.unusedSimpArgs false
set_option linter.unnecessarySimpa false

instance : DecidableEq Bl := fun a b => decidable_of_iff (a.t = b.t ∧ a.s = b.s) (by cases a; cases b; simp)
theorem blob_any (s : ByteArray) (w : World) :
    Calls Tryz.prog 34 #[.string s] w fun e w' => ∃ v, e = .returned v ∧ w'.ownsRow w.heap.size 93 4 v 1 ([(⟨⟨0, 0, 0⟩, s⟩ : Bl)].flatMap Bl.cells) ∧ Below w.heap.size w w' := by
  go_enter Tryz.func34, Tryz.ntmps34
  go_wp2_with fail
  go_ret
  refine ⟨_, rfl, ⟨by simp [Bl.cells], .inr ⟨w.heap.size, 1, _, rfl, Nat.le_refl _, heap_alloc_new w _, by omega, by unfold maxLen; omega, rfl, by simp [Bl.cells]⟩⟩, (Below.refl _ _).alloc (Nat.le_refl _) _⟩
set_option maxHeartbeats 1000000 in
set_option maxRecDepth 100000 in
theorem Same_any (va vb : Value) (a b : List Bl) (w : World) (ha : BlobsAt w va a) (hb : BlobsAt w vb b) (hl : a.length ≤ 1000000000) (hl2 : b.length ≤ 1000000000) :
    Calls Tryz.prog 35 #[va, vb] w fun e w' => e = .returned (.bool (decide (a = b))) ∧ Below w.heap.size w w' := by
  obtain ⟨ao, ca, rfl, hna⟩ := ha.sl
  obtain ⟨bo, cb, rfl, hnb⟩ := hb.sl
  have HA := Lib.hid ha
  have HB := Lib.hid hb
  have HNA := Lib.hid hna
  have HNB := Lib.hid hnb
  clear ha hb hna hnb
  by_cases hlen : a.length = b.length
  · have hlen' : ((a.length : Int) != (b.length : Int)) = false := by simp [hlen]
    have HLEN := Lib.hid hlen
    go_enter Tryz.func35, Tryz.ntmps35
    go_wp2_with fail
    go_loopw [5] (fun v wr => ∃ i : Nat, v = .int .i64 i ∧ i ≤ a.length ∧ Hid (a.take i = b.take i) ∧ Hid (Below w.heap.size w wr)) (fun v _ => a.length - (intOf v).toNat)
    case atStart => exact ⟨0, rfl, by omega, rfl, Below.refl _ _⟩
    case round =>
      obtain ⟨i, rfl, hi, ht, hB⟩ := hrel
      by_cases hic : i < a.length
      · have hic' : (i : Int) < (a.length : Int) := by omega
        have hicb : i < b.length := by omega
        have hicb' : (i : Int) < (b.length : Int) := by omega
        obtain ⟨g, o, rfl⟩ := HNA.out (by intro h; subst h; simp at hic)
        obtain ⟨g', o', rfl⟩ := HNB.out (by intro h; subst h; simp at hicb)
        have xa := range4 ((HA.out.fr (Fr.of_below hB.out Nowhere) (fun _ _ h => h)).nth i hic)
        have xb := range4 ((HB.out.fr (Fr.of_below hB.out Nowhere) (fun _ _ h => h)).nth i hicb)
        have hia : a.take (i + 1) = a.take i ++ [a[i]] := List.take_succ_eq_append_getElem hic
        have hib : b.take (i + 1) = b.take i ++ [b[i]] := List.take_succ_eq_append_getElem hicb
        have hcon : a[i] ≠ b[i] → a ≠ b := fun h e => h (by subst e; rfl)
        have HIA := Lib.hid hia
        have HIB := Lib.hid hib
        have HCON := Lib.hid hcon
        clear hia hib hcon
        generalize a[i] = x at *
        generalize b[i] = y at *
        obtain ⟨⟨z, xx, yy⟩, s⟩ := x
        obtain ⟨⟨z', xx', yy'⟩, s'⟩ := y
        obtain ⟨k0, k1, k2, k3⟩ := xa
        obtain ⟨j0, j1, j2, j3⟩ := xb
        simp only at k0 k1 k2 k3 j0 j1 j2 j3
        have hnq := neq_blob z xx yy z' xx' yy' s s'
        by_cases heq : z = z' ∧ xx = xx' ∧ yy = yy' ∧ s = s'
        · have hb0 : (!decide (z = z' ∧ xx = xx' ∧ yy = yy' ∧ s = s')) = false := by simp [heq]
          have ht2 : Hid (a.take (i + 1) = b.take (i + 1)) := by
            show _ = _
            rw [HIA.out, HIB.out, ht.out]
            obtain ⟨rfl, rfl, rfl, rfl⟩ := heq
            rfl
          rw [hb0] at hnq
          clear heq hb0
          go_wp2_with fail
          go_quiet (fail)
          go_wp2_with fail
          go_roundw
          case rel => exact ⟨i + 1, by go_num, by omega, ht2.out, below_drewN hB.out _⟩
          case measure => simp [intOf]; omega
        · have hb0 : (!decide (z = z' ∧ xx = xx' ∧ yy = yy' ∧ s = s')) = true := by simp only [heq, decide_false, Bool.not_false]
          have hne : Hid (decide (a = b) = false) := by
            show _ = _
            refine decide_eq_false (HCON.out (fun e => heq ?_))
            simp only [Bl.mk.injEq, Tl.mk.injEq] at e
            exact ⟨e.1.1, e.1.2.1, e.1.2.2, e.2⟩
          rw [hb0] at hnq
          clear heq hb0
          go_wp2_with fail
          go_quiet (fail)
          go_wp2_with fail
          go_ret
          exact ⟨by rw [hne.out]; rfl, below_drewN hB.out _⟩
      · have hic' : ¬ (i : Int) < (a.length : Int) := by omega
        have hfin : Hid (a = b) := by
          have := ht.out
          rw [List.take_of_length_le (by omega), List.take_of_length_le (by omega)] at this
          exact this
        go_wp2_with fail
        go_ret
        exact ⟨by rw [decide_eq_true hfin.out]; rfl, hB.out⟩
  · have hlen' : ((a.length : Int) != (b.length : Int)) = true := by simp; omega
    have hne : Hid (decide (a = b) = false) := by
      show _ = _
      exact decide_eq_false (fun e => hlen (by rw [e]))
    go_enter Tryz.func35, Tryz.ntmps35
    go_wp2_with fail
    go_ret
    exact ⟨by rw [hne.out]; rfl, Below.refl _ _⟩
end Go.Proofs.YtjflcpkmoamijaaGreatDoor
