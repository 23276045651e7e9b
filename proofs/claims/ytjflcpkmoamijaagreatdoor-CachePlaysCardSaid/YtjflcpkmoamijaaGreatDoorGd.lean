import Derived.Test.YtjflcpkmoamijaaGreatDoorGa
import Derived.BigQuiet
import Derived.Test.YtjflcpkmoamijaaGreatDoorGc
import Derived.Maps.RangeWalk
import Derived.DeepKeys4
import Derived.WalkSpells
namespace Go.Proofs.YtjflcpkmoamijaaGreatDoor
open Go.RowKit
set_option linter.unusedVariables false
set_option linter.unusedSimpArgs false
set_option linter.unnecessarySimpa false

structure Tl where
  z : Int
  x : Int
  y : Int
  deriving DecidableEq
def Tl.cells (t : Tl) : List Value := [.int .i64 t.z, .int .i64 t.x, .int .i64 t.y]
def Tl.v (t : Tl) : Value := .agg #[.int .i64 t.z, .int .i64 t.x, .int .i64 t.y]
def Tl.ok (t : Tl) : Bool := decide (0 ≤ t.z ∧ t.z ≤ 7 ∧ 0 ≤ t.x ∧ t.x < 2 ^ t.z.toNat ∧ 0 ≤ t.y ∧ t.y < 2 ^ t.z.toNat)
def Tl.less (a b : Tl) : Bool := if a = b then false else if a.z ≠ b.z then decide (a.z < b.z) else if a.y ≠ b.y then decide (a.y < b.y) else decide (a.x < b.x)
set_option maxHeartbeats 400000 in
theorem side_any (z : Nat) (w : World) (hz : z ≤ 7) :
    Calls Tryz.prog 111 #[.int .i64 z] w fun e w' => e = .returned (.int .i64 ((2 : Int) ^ z)) ∧ w' = w := by
  rcases (by omega : z = 0 ∨ z = 1 ∨ z = 2 ∨ z = 3 ∨ z = 4 ∨ z = 5 ∨ z = 6 ∨ z = 7) with rfl | rfl | rfl | rfl | rfl | rfl | rfl | rfl
  all_goals
    go_enter Tryz.func111, Tryz.ntmps111
    go_wp2
    go_ret
    exact ⟨rfl, rfl⟩
set_option maxHeartbeats 2000000 in
theorem TCheck_any (t : Tl) (w : World) :
    Calls Tryz.prog 80 #[t.v] w fun e w' => e = .returned (.int .i64 (if t.ok then 0 else 16)) ∧ Below w.heap.size w w' := by
  obtain ⟨z, x, y⟩ := t
  unfold Tl.v
  simp only
  have fin : ∀ (z : Int) (n : Nat), Below w.heap.size w ((w.alloc (.cells #[.int .i64 z, .int .i64 x, .int .i64 y] 91)).drewN n) := by
    intro z n
    have hb := (Below.refl w.heap.size w).alloc (Nat.le_refl _) (.cells #[.int .i64 z, .int .i64 x, .int .i64 y] 91)
    exact ⟨hb.os, hb.tape, hb.output, hb.size, hb.block⟩
  have FIN := Lib.hid fin
  clear fin
  by_cases h1 : z < 0
  · have hno : Tl.ok ⟨z, x, y⟩ = false := by simp [Tl.ok]; omega
    rw [hno]
    clear hno
    go_enter Tryz.func80, Tryz.ntmps80
    go_wp2
    go_quiet (fail)
    go_wp2
    go_ret
    exact ⟨rfl, FIN.out _ _⟩
  by_cases h2 : 7 < z
  · have hno : Tl.ok ⟨z, x, y⟩ = false := by simp [Tl.ok]; omega
    rw [hno]
    clear hno
    go_enter Tryz.func80, Tryz.ntmps80
    go_wp2
    go_quiet (fail)
    go_wp2
    go_ret
    exact ⟨rfl, FIN.out _ _⟩
  obtain ⟨n, rfl⟩ := Int.eq_ofNat_of_zero_le (by omega : 0 ≤ z)
  have hs := fun w => side_any n w (by omega)
  have hok : Tl.ok ⟨n, x, y⟩ = decide (0 ≤ x ∧ x < 2 ^ n ∧ 0 ≤ y ∧ y < 2 ^ n) := by simp [Tl.ok]; intros; omega
  rw [hok]
  clear hok
  generalize (2 : Int) ^ n = p at *
  by_cases h3 : x < 0
  · have hno : decide (0 ≤ x ∧ x < p ∧ 0 ≤ y ∧ y < p) = false := by simp; omega
    rw [hno]
    clear hno
    go_enter Tryz.func80, Tryz.ntmps80
    go_wp2
    go_quiet (exact Calls.quiet_of_same (hs _))
    go_wp2
    go_ret
    exact ⟨rfl, FIN.out _ _⟩
  by_cases h4 : p ≤ x
  · have hno : decide (0 ≤ x ∧ x < p ∧ 0 ≤ y ∧ y < p) = false := by simp; omega
    rw [hno]
    clear hno
    go_enter Tryz.func80, Tryz.ntmps80
    go_wp2
    go_quiet (exact Calls.quiet_of_same (hs _))
    go_wp2
    go_ret
    exact ⟨rfl, FIN.out _ _⟩
  by_cases h5 : y < 0
  · have hno : decide (0 ≤ x ∧ x < p ∧ 0 ≤ y ∧ y < p) = false := by simp; omega
    rw [hno]
    clear hno
    go_enter Tryz.func80, Tryz.ntmps80
    go_wp2
    go_quiet (exact Calls.quiet_of_same (hs _))
    go_wp2
    go_ret
    exact ⟨rfl, FIN.out _ _⟩
  by_cases h6 : p ≤ y
  · have hno : decide (0 ≤ x ∧ x < p ∧ 0 ≤ y ∧ y < p) = false := by simp; omega
    rw [hno]
    clear hno
    go_enter Tryz.func80, Tryz.ntmps80
    go_wp2
    go_quiet (exact Calls.quiet_of_same (hs _))
    go_wp2
    go_ret
    exact ⟨rfl, FIN.out _ _⟩
  have hno : decide (0 ≤ x ∧ x < p ∧ 0 ≤ y ∧ y < p) = true := by simp; omega
  rw [hno]
  clear hno
  go_enter Tryz.func80, Tryz.ntmps80
  go_wp2
  go_quiet (exact Calls.quiet_of_same (hs _))
  go_wp2
  go_ret
  exact ⟨rfl, FIN.out _ _⟩
end Go.Proofs.YtjflcpkmoamijaaGreatDoor
namespace Go.Proofs.YtjflcpkmoamijaaGreatDoor
open Go.RowKit
set_option linter.unusedVariables false
set_option linter.unusedSimpArgs false
set_option linter.unnecessarySimpa false

set_option maxHeartbeats 1000000 in
theorem Less_eq (a b : Tl) (w : World) :
    Calls Tryz.prog 61 #[a.v, b.v] w fun e w' => e = .returned (.bool (a.less b)) ∧ w' = (w.alloc (.cells #[.int .i64 a.z, .int .i64 a.x, .int .i64 a.y] 91)).alloc (.cells #[.int .i64 b.z, .int .i64 b.x, .int .i64 b.y] 91) := by
  obtain ⟨z, x, y⟩ := a
  obtain ⟨z', x', y'⟩ := b
  unfold Tl.v
  simp only
  by_cases h1 : z = z'
  · by_cases h2 : y = y'
    · by_cases h3 : x = x'
      · have hl : Tl.less ⟨z, x, y⟩ ⟨z', x', y'⟩ = false := by simp [Tl.less, h1, h2, h3]
        rw [hl]
        subst h1; subst h2; subst h3
        clear hl
        go_enter Tryz.func61, Tryz.ntmps61
        go_wp2
        go_ret
        exact ⟨rfl, rfl⟩
      · have hl : Tl.less ⟨z, x, y⟩ ⟨z', x', y'⟩ = decide (x < x') := by simp [Tl.less, h1, h2, h3]
        rw [hl]
        subst h1; subst h2
        clear hl
        have q3 : (x == x') = false := by simpa using h3
        go_enter Tryz.func61, Tryz.ntmps61
        go_wp2
        go_ret
        exact ⟨rfl, rfl⟩
    · have hl : Tl.less ⟨z, x, y⟩ ⟨z', x', y'⟩ = decide (y < y') := by simp [Tl.less, h1, h2]
      rw [hl]
      subst h1
      clear hl
      have q2 : (y == y') = false := by simpa using h2
      have q4 : (y != y') = true := by simpa using h2
      go_enter Tryz.func61, Tryz.ntmps61
      go_wp2
      go_ret
      exact ⟨rfl, rfl⟩
  · have hl : Tl.less ⟨z, x, y⟩ ⟨z', x', y'⟩ = decide (z < z') := by simp [Tl.less, h1]
    rw [hl]
    clear hl
    have q1 : (z == z') = false := by simpa using h1
    have q4 : (z != z') = true := by simpa using h1
    go_enter Tryz.func61, Tryz.ntmps61
    go_wp2
    go_ret
    exact ⟨rfl, rfl⟩
theorem Less_any (a b : Tl) (w : World) :
    Calls Tryz.prog 61 #[a.v, b.v] w fun e w' => e = .returned (.bool (a.less b)) ∧ Below w.heap.size w w' := by
  refine (Less_eq a b w).mono ?_
  rintro e w' ⟨rfl, rfl⟩
  exact ⟨rfl, ((Below.refl w.heap.size w).alloc (Nat.le_refl _) _).alloc (by simp) _⟩
end Go.Proofs.YtjflcpkmoamijaaGreatDoor
namespace Go.Proofs.YtjflcpkmoamijaaGreatDoor
open Go.RowKit
set_option linter.unusedVariables false
set_option linter.unusedSimpArgs false
set_option linter.unnecessarySimpa false

structure Bl where
  t : Tl
  s : ByteArray
def Bl.cells (b : Bl) : List Value := [.int .i64 b.t.z, .int .i64 b.t.x, .int .i64 b.t.y, .string b.s]
def Bl.v (b : Bl) : Value := .agg #[.int .i64 b.t.z, .int .i64 b.t.x, .int .i64 b.t.y, .string b.s]
/-- A slice of tiles that can be read. -/
structure BlobsAt (w : World) (v : Value) (l : List Bl) : Prop where
  sl : ∃ ao c, v = .slice ao l.length c ∧ (l ≠ [] → ∃ b o, ao = some ⟨b, o, none⟩)
  at_ : ∀ b o n c, v = .slice (some ⟨b, o, none⟩) n c → w.rangeAt b o (l.flatMap Bl.cells)
theorem lt_of_cell' {w : World} {a : Addr} {v : Value} (h : w.cell? a = some v) : a.block < w.heap.size := by
  by_cases hn : a.block < w.heap.size
  · exact hn
  · have h0 : w.heap[a.block]? = none := Array.getElem?_eq_none (by omega)
    simp [World.cell?, h0] at h
theorem rangeAt_fr {w w' : World} {b o : Nat} {cs : List Value} {S : Nat → Prop} (h : w.rangeAt b o cs) (k : Fr w w' S) (hn : ¬ S b) : w'.rangeAt b o cs := by
  intro j u hj
  have h1 := h j u hj
  exact (World.cell?_of_block (k.block b (lt_of_cell' h1) hn)).trans h1
theorem BlobsAt.fr {w w' : World} {v : Value} {l : List Bl} {S : Nat → Prop} (h : BlobsAt w v l) (k : Fr w w' S) (hn : ∀ b, v.ownBlock = some b → ¬ S b) : BlobsAt w' v l := by
  refine ⟨h.sl, fun b o n c hv => rangeAt_fr (h.at_ b o n c hv) k (hn b (by rw [hv]; rfl))⟩
theorem BlobsAt.drewN {w : World} {v : Value} {l : List Bl} (h : BlobsAt w v l) (n : Nat) : BlobsAt (w.drewN n) v l := ⟨h.sl, h.at_⟩
theorem BlobsAt.nth {w : World} {l : List Bl} {b o n c : Nat} (h : BlobsAt w (.slice (some ⟨b, o, none⟩) n c) l) (i : Nat) (hi : i < l.length) : w.rangeAt b (o + i * 4) (l[i]).cells := by
  intro j u hj
  have h1 := h.at_ b o n c rfl (i * 4 + j) u
  have hj4 : j < 4 := (List.getElem?_eq_some_iff.1 hj).1
  rw [flat_get Bl.cells 4 l i j (fun _ _ => rfl) hi hj4] at h1
  rw [Nat.add_assoc]
  exact h1 hj
theorem range_tile {w : World} {b o : Nat} {x : Bl} (h : w.rangeAt b o x.cells) : w.rangeAt b o x.t.cells := by
  intro j u hj
  have hj3 : j < 3 := (List.getElem?_eq_some_iff.1 hj).1
  refine h j u ?_
  rcases (by omega : j = 0 ∨ j = 1 ∨ j = 2) with rfl | rfl | rfl <;> exact hj
theorem load_blob {w : World} {b o : Nat} {x : Bl} (h : w.rangeAt b o x.cells) : (Instr.loadAt 93 (.pointer (some ⟨b, o, none⟩))).run Tryz.prog w = .ok x.v w :=
  run_loadAt_mid w b o 93 x.cells _ h Tryz.underlying93 rfl (by kernel_rfl)
theorem load_tile {w : World} {b o : Nat} {x : Tl} (h : w.rangeAt b o x.cells) : (Instr.loadAt 91 (.pointer (some ⟨b, o, none⟩))).run Tryz.prog w = .ok x.v w :=
  run_loadAt_mid w b o 91 x.cells _ h Tryz.underlying91 rfl (by kernel_rfl)
theorem range_new (w : World) (x : Bl) : (w.alloc (.cells #[.int .i64 x.t.z, .int .i64 x.t.x, .int .i64 x.t.y, .string x.s] 93)).rangeAt w.heap.size 0 x.cells := by
  intro j u hj
  rw [Nat.zero_add, World.cell?_alloc_new]
  rw [← hj]
  simp [Bl.cells]
theorem range4 {w : World} {b o : Nat} {x : Bl} (h : w.rangeAt b o x.cells) : w.cell? ⟨b, o, none⟩ = some (.int .i64 x.t.z) ∧ w.cell? ⟨b, o + 1, none⟩ = some (.int .i64 x.t.x) ∧ w.cell? ⟨b, o + 2, none⟩ = some (.int .i64 x.t.y) ∧ w.cell? ⟨b, o + 3, none⟩ = some (.string x.s) :=
  ⟨h 0 _ rfl, h 1 _ rfl, h 2 _ rfl, h 3 _ rfl⟩
theorem wrap_pred (i : Nat) (h : i < 1000000000) : IntKind.i64.wrap (((i + 1 : Nat) : Int) - 1) = (i : Int) := by
  rw [IntKind.wrap_i64]; omega
theorem wrap_self (i : Nat) (h : i < 1000000000) : IntKind.i64.wrap (i : Int) = (i : Int) := by
  rw [IntKind.wrap_i64]; omega
def tlAt (l : List Bl) (i : Nat) : Tl := ((l[i]?).map (·.t)).getD ⟨0, 0, 0⟩
theorem tlAt_get {l : List Bl} {i : Nat} (h : i < l.length) : tlAt l i = (l[i]).t := by simp [tlAt, List.getElem?_eq_getElem h]
def goodAt (l : List Bl) (i : Nat) : Bool := (tlAt l i).ok && (decide (i = 0) || (tlAt l (i - 1)).less (tlAt l i))
def ordB (l : List Bl) : Bool := (List.range l.length).all (goodAt l)
theorem ordB_false {l : List Bl} {i : Nat} (hi : i < l.length) (h : goodAt l i = false) : ordB l = false := by
  unfold ordB; rw [List.all_eq_false]; exact ⟨i, by simpa using hi, by simpa using h⟩
theorem ordB_true {l : List Bl} (h : ∀ i, i < l.length → goodAt l i = true) : ordB l = true := by
  unfold ordB; rw [List.all_eq_true]; intro i hi; exact h i (by simpa using hi)
set_option maxHeartbeats 1000000 in
set_option maxRecDepth 100000 in
theorem ordered_any (v : Value) (l : List Bl) (w : World) (h : BlobsAt w v l) (hl : l.length ≤ 1000000000) :
    Calls Tryz.prog 47 #[v] w fun e w' => e = .returned (.bool (ordB l)) ∧ Below w.heap.size w w' := by
  obtain ⟨ao, c, rfl, hne⟩ := h.sl
  have H := Lib.hid h
  have HNE := Lib.hid hne
  clear h hne
  go_enter Tryz.func47, Tryz.ntmps47
  go_wp2_with fail
  go_loopw [7] (fun v wr => ∃ i : Nat, v = .int .i64 i ∧ i ≤ l.length ∧ Hid (∀ j, j < i → goodAt l j = true) ∧ Hid (Below w.heap.size w wr)) (fun v _ => l.length - (intOf v).toNat)
  case atStart => exact ⟨0, rfl, by omega, fun j hj => by omega, Below.refl _ _⟩
  case round =>
    obtain ⟨i, rfl, hi, hg, hB⟩ := hrel
    by_cases hic : i < l.length
    · have hic' : (i : Int) < (l.length : Int) := by omega
      obtain ⟨b, o, rfl⟩ := HNE.out (by intro h; subst h; simp at hic)
      have Hr := Lib.hid (H.out.fr (Fr.of_below hB.out Nowhere) (fun _ _ h => h))
      have hx := Hr.out.nth i hic
      have hx4 := range4 hx
      have HX := Lib.hid hx
      generalize hxx : l[i] = x at *
      obtain ⟨⟨z, x, y⟩, s⟩ := x
      obtain ⟨k0, k1, k2, k3⟩ := hx4
      simp only at k0 k1 k2 k3
      clear hx
      have hgi : goodAt l i = ((⟨z, x, y⟩ : Tl).ok && (decide (i = 0) || (tlAt l (i - 1)).less ⟨z, x, y⟩)) := by
        unfold goodAt; rw [tlAt_get hic, hxx]
      have HGI := Lib.hid hgi
      have hS0 : (wr.alloc (.cells #[.int .i64 z, .int .i64 x, .int .i64 y, .string s] 93)).rangeAt wr.heap.size 0 (Bl.mk ⟨z, x, y⟩ s).cells := range_new wr ⟨⟨z, x, y⟩, s⟩
      have hS1 : BlobsAt (wr.alloc (.cells #[.int .i64 z, .int .i64 x, .int .i64 y, .string s] 93)) (.slice (some ⟨b, o, none⟩) l.length c) l := Hr.out.fr ((Fr.refl _ Nowhere).alloc _) (fun _ _ h => h)
      have hB1 : Below w.heap.size w (wr.alloc (.cells #[.int .i64 z, .int .i64 x, .int .i64 y, .string s] 93)) := hB.out.alloc hB.out.size _
      have HS0 := Lib.hid hS0
      have HS1 := Lib.hid hS1
      have HB1 := Lib.hid hB1
      clear hgi hxx hS0 hS1 hB1
      go_wp2_with fail
      clear k0 k1 k2 k3 HX Hr hB
      generalize wr.alloc (.cells #[.int .i64 z, .int .i64 x, .int .i64 y, .string s] 93) = w1 at *
      have hSS : w1.drew.rangeAt wr.heap.size 0 (Bl.mk ⟨z, x, y⟩ s).cells ∧ BlobsAt w1.drew (.slice (some ⟨b, o, none⟩) l.length c) l := ⟨HS0.out, HS1.out.drewN 1⟩
      have HSS := Lib.hid hSS
      clear hSS
      rcases hok : (⟨z, x, y⟩ : Tl).ok with _ | _
      · have hbad : ordB l = false := ordB_false hic (by rw [HGI.out, hok]; rfl)
        have HBAD := Lib.hid hbad
        clear hbad
        refine region_seq (fun w' => w'.rangeAt wr.heap.size 0 (Bl.mk ⟨z, x, y⟩ s).cells ∧ BlobsAt w' (.slice (some ⟨b, o, none⟩) l.length c) l) []
          [(.p, 0), (.q, 1), (.l, 2), (.p, 3), (.p, 4), (.p, 5), (.p, 6), (.p, 7), (.p, 8), (.p, 9), (.p, 10), (.p, 11), (.p, 12), (.p, 13), (.p, 14), (.p, 15), (.p, 16), (.p, 17), (.p, 18), (.p, 19)] (by kernel_rfl) (by kernel_rfl) (by kernel_rfl) (by kernel_rfl) (fun d v c a w h => by cases d <;> exact h) ?_
        (refine seq_p (N := some 12) rfl rfl (by rfl) ?_ (fun w' => ?_) ?_
         rotate_left
         · go_simp
           with_reducible rfl
         simp only [Act.put, List.setIfInBounds_toArray, List.set_cons_zero, List.set_cons_succ])
        (refine seq_q (N := some 13) rfl rfl (by rfl) (Tl.mk z x y).v ?_ HSS.out ?_
         · rintro w' ⟨s1, s2⟩
           exact run_ld rfl rfl (load_tile (range_tile s1))
         simp only [Act.put, List.setIfInBounds_toArray, List.set_cons_zero, List.set_cons_succ])
        refine seq_l rfl (by rfl) (wp_cl (N := some 14) (f := 80) (vs := #[(Tl.mk z x y).v]) rfl rfl (by simp [Act.eval]) (callF Tryz.func80 rfl (by decide) _ _) ?_)
        refine (TCheck_any ⟨z, x, y⟩ _).mono ?_
        rintro e w5 ⟨rfl, b5⟩
        have b5' : Below w1.heap.size w1 w5 := ((Below.refl w1.heap.size w1).drew).trans (by exact b5)
        have h5 : w5.rangeAt wr.heap.size 0 (Bl.mk ⟨z, x, y⟩ s).cells ∧ BlobsAt w5 (.slice (some ⟨b, o, none⟩) l.length c) l := ⟨rangeAt_fr HS0.out (Fr.of_below b5' Nowhere) (fun h => h), HS1.out.fr (Fr.of_below b5' Nowhere) (fun _ _ h => h)⟩
        have HB5 := Lib.hid (HB1.out.trans (b5'.mono HB1.out.size))
        have HS5 := Lib.hid h5
        clear b5 b5' h5
        rw [hok]
        refine ⟨_, rfl, ?_⟩
        simp only [Act.put, List.setIfInBounds_toArray, List.set_cons_zero, List.set_cons_succ]
        refine ⟨fun _ => HS5.out, ?_⟩
        simp only [Bool.false_eq_true, if_false]
        (refine seq_p (N := some 15) rfl rfl (by rfl) ?_ (fun w' => ?_) ?_
         rotate_left
         · go_simp
           with_reducible rfl
         simp only [Act.put, List.setIfInBounds_toArray, List.set_cons_zero, List.set_cons_succ])
        (refine seq_p (N := some 16) rfl rfl (by rfl) ?_ (fun w' => ?_) ?_
         rotate_left
         · go_simp
           with_reducible rfl
         simp only [Act.put, List.setIfInBounds_toArray, List.set_cons_zero, List.set_cons_succ])
        (refine seq_off (N := some 17) rfl rfl (by rfl) ?_
         simp only [Act.put, List.setIfInBounds_toArray, List.set_cons_zero, List.set_cons_succ])
        (refine seq_off (N := some 18) rfl rfl (by rfl) ?_
         simp only [Act.put, List.setIfInBounds_toArray, List.set_cons_zero, List.set_cons_succ])
        (refine seq_off (N := some 19) rfl rfl (by rfl) ?_
         simp only [Act.put, List.setIfInBounds_toArray, List.set_cons_zero, List.set_cons_succ])
        (refine seq_off (N := some 20) rfl rfl (by rfl) ?_
         simp only [Act.put, List.setIfInBounds_toArray, List.set_cons_zero, List.set_cons_succ])
        (refine seq_off (N := some 21) rfl rfl (by rfl) ?_
         simp only [Act.put, List.setIfInBounds_toArray, List.set_cons_zero, List.set_cons_succ])
        (refine seq_off (N := some 22) rfl rfl (by rfl) ?_
         simp only [Act.put, List.setIfInBounds_toArray, List.set_cons_zero, List.set_cons_succ])
        (refine seq_off (N := some 23) rfl rfl (by rfl) ?_
         simp only [Act.put, List.setIfInBounds_toArray, List.set_cons_zero, List.set_cons_succ])
        (refine seq_off (N := some 24) rfl rfl (by rfl) ?_
         simp only [Act.put, List.setIfInBounds_toArray, List.set_cons_zero, List.set_cons_succ])
        (refine seq_off (N := some 25) rfl rfl (by rfl) ?_
         simp only [Act.put, List.setIfInBounds_toArray, List.set_cons_zero, List.set_cons_succ])
        (refine seq_off (N := some 26) rfl rfl (by rfl) ?_
         simp only [Act.put, List.setIfInBounds_toArray, List.set_cons_zero, List.set_cons_succ])
        (refine seq_off (N := some 27) rfl rfl (by rfl) ?_
         simp only [Act.put, List.setIfInBounds_toArray, List.set_cons_zero, List.set_cons_succ])
        (refine seq_off (N := some 28) rfl rfl (by rfl) ?_
         simp only [Act.put, List.setIfInBounds_toArray, List.set_cons_zero, List.set_cons_succ])
        (refine seq_off (N := some 29) rfl rfl (by rfl) ?_
         simp only [Act.put, List.setIfInBounds_toArray, List.set_cons_zero, List.set_cons_succ])
        (refine seq_off (N := some 30) rfl rfl (by rfl) ?_
         simp only [Act.put, List.setIfInBounds_toArray, List.set_cons_zero, List.set_cons_succ])
        (refine seq_p (N := some 31) rfl rfl (by rfl) ?_ (fun w' => ?_) ?_
         rotate_left
         · go_simp
           with_reducible rfl
         simp only [Act.put, List.setIfInBounds_toArray, List.set_cons_zero, List.set_cons_succ])
        refine seq_nil ?_
        go_wp2_with fail
        go_ret
        exact ⟨by rw [HBAD.out]; rfl, HB5.out⟩
      · rcases i with _ | i
        · have HG : Hid (∀ j, j < 0 + 1 → goodAt l j = true) := by
            intro j hj
            obtain rfl : j = 0 := by omega
            rw [HGI.out, hok]; rfl
          refine region_seq (fun w' => w'.rangeAt wr.heap.size 0 (Bl.mk ⟨z, x, y⟩ s).cells ∧ BlobsAt w' (.slice (some ⟨b, o, none⟩) l.length c) l) []
            [(.p, 0), (.q, 1), (.l, 2), (.p, 3), (.p, 4), (.p, 5), (.p, 6), (.p, 7), (.p, 8), (.p, 9), (.p, 10), (.p, 11), (.p, 12), (.p, 13), (.p, 14), (.p, 15), (.p, 16), (.p, 17), (.p, 18), (.p, 19)] (by kernel_rfl) (by kernel_rfl) (by kernel_rfl) (by kernel_rfl) (fun d v c a w h => by cases d <;> exact h) ?_
          (refine seq_p (N := some 12) rfl rfl (by rfl) ?_ (fun w' => ?_) ?_
           rotate_left
           · go_simp
             with_reducible rfl
           simp only [Act.put, List.setIfInBounds_toArray, List.set_cons_zero, List.set_cons_succ])
          (refine seq_q (N := some 13) rfl rfl (by rfl) (Tl.mk z x y).v ?_ HSS.out ?_
           · rintro w' ⟨s1, s2⟩
             exact run_ld rfl rfl (load_tile (range_tile s1))
           simp only [Act.put, List.setIfInBounds_toArray, List.set_cons_zero, List.set_cons_succ])
          refine seq_l rfl (by rfl) (wp_cl (N := some 14) (f := 80) (vs := #[(Tl.mk z x y).v]) rfl rfl (by simp [Act.eval]) (callF Tryz.func80 rfl (by decide) _ _) ?_)
          refine (TCheck_any ⟨z, x, y⟩ _).mono ?_
          rintro e w5 ⟨rfl, b5⟩
          have b5' : Below w1.heap.size w1 w5 := ((Below.refl w1.heap.size w1).drew).trans (by exact b5)
          have h5 : w5.rangeAt wr.heap.size 0 (Bl.mk ⟨z, x, y⟩ s).cells ∧ BlobsAt w5 (.slice (some ⟨b, o, none⟩) l.length c) l := ⟨rangeAt_fr HS0.out (Fr.of_below b5' Nowhere) (fun h => h), HS1.out.fr (Fr.of_below b5' Nowhere) (fun _ _ h => h)⟩
          have HB5 := Lib.hid (HB1.out.trans (b5'.mono HB1.out.size))
          have HS5 := Lib.hid h5
          clear b5 b5' h5
          rw [hok]
          refine ⟨_, rfl, ?_⟩
          simp only [Act.put, List.setIfInBounds_toArray, List.set_cons_zero, List.set_cons_succ]
          refine ⟨fun _ => HS5.out, ?_⟩
          simp only [if_true]
          (refine seq_p (N := some 15) rfl rfl (by rfl) ?_ (fun w' => ?_) ?_
           rotate_left
           · go_simp
             with_reducible rfl
           simp only [Act.put, List.setIfInBounds_toArray, List.set_cons_zero, List.set_cons_succ])
          (refine seq_p (N := some 16) rfl rfl (by rfl) ?_ (fun w' => ?_) ?_
           rotate_left
           · go_simp
             with_reducible rfl
           simp only [Act.put, List.setIfInBounds_toArray, List.set_cons_zero, List.set_cons_succ])
          (refine seq_p (N := some 17) rfl rfl (by rfl) ?_ (fun w' => ?_) ?_
           rotate_left
           · go_simp
             with_reducible rfl
           simp only [Act.put, List.setIfInBounds_toArray, List.set_cons_zero, List.set_cons_succ])
          (refine seq_p (N := some 18) rfl rfl (by rfl) ?_ (fun w' => ?_) ?_
           rotate_left
           · go_simp
             with_reducible rfl
           simp only [Act.put, List.setIfInBounds_toArray, List.set_cons_zero, List.set_cons_succ])
          (refine seq_p (N := some 19) rfl rfl (by rfl) ?_ (fun w' => ?_) ?_
           rotate_left
           · go_simp
             with_reducible rfl
           simp only [Act.put, List.setIfInBounds_toArray, List.set_cons_zero, List.set_cons_succ])
          (refine seq_off (N := some 20) rfl rfl (by rfl) ?_
           simp only [Act.put, List.setIfInBounds_toArray, List.set_cons_zero, List.set_cons_succ])
          (refine seq_off (N := some 21) rfl rfl (by rfl) ?_
           simp only [Act.put, List.setIfInBounds_toArray, List.set_cons_zero, List.set_cons_succ])
          (refine seq_off (N := some 22) rfl rfl (by rfl) ?_
           simp only [Act.put, List.setIfInBounds_toArray, List.set_cons_zero, List.set_cons_succ])
          (refine seq_off (N := some 23) rfl rfl (by rfl) ?_
           simp only [Act.put, List.setIfInBounds_toArray, List.set_cons_zero, List.set_cons_succ])
          (refine seq_off (N := some 24) rfl rfl (by rfl) ?_
           simp only [Act.put, List.setIfInBounds_toArray, List.set_cons_zero, List.set_cons_succ])
          (refine seq_off (N := some 25) rfl rfl (by rfl) ?_
           simp only [Act.put, List.setIfInBounds_toArray, List.set_cons_zero, List.set_cons_succ])
          (refine seq_off (N := some 26) rfl rfl (by rfl) ?_
           simp only [Act.put, List.setIfInBounds_toArray, List.set_cons_zero, List.set_cons_succ])
          (refine seq_off (N := some 27) rfl rfl (by rfl) ?_
           simp only [Act.put, List.setIfInBounds_toArray, List.set_cons_zero, List.set_cons_succ])
          (refine seq_off (N := some 28) rfl rfl (by rfl) ?_
           simp only [Act.put, List.setIfInBounds_toArray, List.set_cons_zero, List.set_cons_succ])
          (refine seq_off (N := some 29) rfl rfl (by rfl) ?_
           simp only [Act.put, List.setIfInBounds_toArray, List.set_cons_zero, List.set_cons_succ])
          (refine seq_p (N := some 30) rfl rfl (by rfl) ?_ (fun w' => ?_) ?_
           rotate_left
           · go_simp
             with_reducible rfl
           simp only [Act.put, List.setIfInBounds_toArray, List.set_cons_zero, List.set_cons_succ])
          (refine seq_p (N := some 31) rfl rfl (by rfl) ?_ (fun w' => ?_) ?_
           rotate_left
           · go_simp
             with_reducible rfl
           simp only [Act.put, List.setIfInBounds_toArray, List.set_cons_zero, List.set_cons_succ])
          refine seq_nil ?_
          go_wp2_with fail
          go_roundw
          case rel => exact ⟨0 + 1, by go_num, by omega, HG.out, HB5.out⟩
          case measure => simp [intOf]; omega
        · have hi2 : (i : Int) < (l.length : Int) := by omega
          have hi3 : i < l.length := by omega
          have hwi := wrap_pred i (by omega)
          have hwj := wrap_self i (by omega)
          have htl := tlAt_get hi3
          have HTL := Lib.hid htl
          have hpos : (0 : Int) < ((i + 1 : Nat) : Int) := by omega
          clear htl
          refine region_seq (fun w' => w'.rangeAt wr.heap.size 0 (Bl.mk ⟨z, x, y⟩ s).cells ∧ BlobsAt w' (.slice (some ⟨b, o, none⟩) l.length c) l) []
            [(.p, 0), (.q, 1), (.l, 2), (.p, 3), (.p, 4), (.p, 5), (.p, 6), (.p, 7), (.p, 8), (.p, 9), (.p, 10), (.p, 11), (.p, 12), (.q, 13), (.p, 14), (.q, 15), (.l, 16), (.p, 17), (.p, 18), (.p, 19)] (by kernel_rfl) (by kernel_rfl) (by kernel_rfl) (by kernel_rfl) (fun d v c a w h => by cases d <;> exact h) ?_
          (refine seq_p (N := some 12) rfl rfl (by rfl) ?_ (fun w' => ?_) ?_
           rotate_left
           · go_simp
             with_reducible rfl
           simp only [Act.put, List.setIfInBounds_toArray, List.set_cons_zero, List.set_cons_succ])
          (refine seq_q (N := some 13) rfl rfl (by rfl) (Tl.mk z x y).v ?_ HSS.out ?_
           · rintro w' ⟨s1, s2⟩
             exact run_ld rfl rfl (load_tile (range_tile s1))
           simp only [Act.put, List.setIfInBounds_toArray, List.set_cons_zero, List.set_cons_succ])
          refine seq_l rfl (by rfl) (wp_cl (N := some 14) (f := 80) (vs := #[(Tl.mk z x y).v]) rfl rfl (by simp [Act.eval]) (callF Tryz.func80 rfl (by decide) _ _) ?_)
          refine (TCheck_any ⟨z, x, y⟩ _).mono ?_
          rintro e w5 ⟨rfl, b5⟩
          have b5' : Below w1.heap.size w1 w5 := ((Below.refl w1.heap.size w1).drew).trans (by exact b5)
          have h5 : w5.rangeAt wr.heap.size 0 (Bl.mk ⟨z, x, y⟩ s).cells ∧ BlobsAt w5 (.slice (some ⟨b, o, none⟩) l.length c) l := ⟨rangeAt_fr HS0.out (Fr.of_below b5' Nowhere) (fun h => h), HS1.out.fr (Fr.of_below b5' Nowhere) (fun _ _ h => h)⟩
          have HB5 := Lib.hid (HB1.out.trans (b5'.mono HB1.out.size))
          have HS5 := Lib.hid h5
          clear b5 b5' h5
          rw [hok]
          refine ⟨_, rfl, ?_⟩
          simp only [Act.put, List.setIfInBounds_toArray, List.set_cons_zero, List.set_cons_succ]
          refine ⟨fun _ => HS5.out, ?_⟩
          simp only [if_true]
          (refine seq_p (N := some 15) rfl rfl (by rfl) ?_ (fun w' => ?_) ?_
           rotate_left
           · go_simp
             with_reducible rfl
           simp only [Act.put, List.setIfInBounds_toArray, List.set_cons_zero, List.set_cons_succ])
          (refine seq_p (N := some 16) rfl rfl (by rfl) ?_ (fun w' => ?_) ?_
           rotate_left
           · go_simp
             with_reducible rfl
           simp only [Act.put, List.setIfInBounds_toArray, List.set_cons_zero, List.set_cons_succ])
          (refine seq_p (N := some 17) rfl rfl (by rfl) ?_ (fun w' => ?_) ?_
           rotate_left
           · go_simp
             with_reducible rfl
           simp only [Act.put, List.setIfInBounds_toArray, List.set_cons_zero, List.set_cons_succ])
          (refine seq_p (N := some 18) rfl rfl (by rfl) ?_ (fun w' => ?_) ?_
           rotate_left
           · go_simp
             with_reducible rfl
           simp only [Act.put, List.setIfInBounds_toArray, List.set_cons_zero, List.set_cons_succ])
          (refine seq_p (N := some 19) rfl rfl (by rfl) ?_ (fun w' => ?_) ?_
           rotate_left
           · go_simp
             with_reducible rfl
           simp only [Act.put, List.setIfInBounds_toArray, List.set_cons_zero, List.set_cons_succ])
          (refine seq_p (N := some 20) rfl rfl (by rfl) ?_ (fun w' => ?_) ?_
           rotate_left
           · go_simp
             with_reducible rfl
           simp only [Act.put, List.setIfInBounds_toArray, List.set_cons_zero, List.set_cons_succ])
          (refine seq_p (N := some 21) rfl rfl (by rfl) ?_ (fun w' => ?_) ?_
           rotate_left
           · go_simp
             with_reducible rfl
           simp only [Act.put, List.setIfInBounds_toArray, List.set_cons_zero, List.set_cons_succ])
          (refine seq_p (N := some 22) rfl rfl (by rfl) ?_ (fun w' => ?_) ?_
           rotate_left
           · go_simp
             with_reducible rfl
           simp only [Act.put, List.setIfInBounds_toArray, List.set_cons_zero, List.set_cons_succ])
          (refine seq_p (N := some 23) rfl rfl (by rfl) ?_ (fun w' => ?_) ?_
           rotate_left
           · go_simp
             with_reducible rfl
           simp only [Act.put, List.setIfInBounds_toArray, List.set_cons_zero, List.set_cons_succ])
          (refine seq_p (N := some 24) rfl rfl (by rfl) ?_ (fun w' => ?_) ?_
           rotate_left
           · go_simp
             with_reducible rfl
           simp only [Act.put, List.setIfInBounds_toArray, List.set_cons_zero, List.set_cons_succ])
          (refine seq_q (N := some 25) rfl rfl (by rfl) (tlAt l i).v ?_ HS5.out ?_
           · rintro w' ⟨s1, s2⟩
             exact run_ld rfl rfl (by rw [HTL.out]; exact load_tile (range_tile (s2.nth i hi3)))
           simp only [Act.put, List.setIfInBounds_toArray, List.set_cons_zero, List.set_cons_succ])
          (refine seq_p (N := some 26) rfl rfl (by rfl) ?_ (fun w' => ?_) ?_
           rotate_left
           · go_simp
             with_reducible rfl
           simp only [Act.put, List.setIfInBounds_toArray, List.set_cons_zero, List.set_cons_succ])
          (refine seq_q (N := some 27) rfl rfl (by rfl) (Tl.mk z x y).v ?_ HS5.out ?_
           · rintro w' ⟨s1, s2⟩
             exact run_ld rfl rfl (load_tile (range_tile s1))
           simp only [Act.put, List.setIfInBounds_toArray, List.set_cons_zero, List.set_cons_succ])
          refine seq_l rfl (by rfl) (wp_cl (N := some 28) (f := 61) (vs := #[(tlAt l i).v, (Tl.mk z x y).v]) rfl rfl (by simp [Act.eval]) (callF Tryz.func61 rfl (by decide) _ _) ?_)
          refine (Less_any (tlAt l i) ⟨z, x, y⟩ _).mono ?_
          rintro e w6 ⟨rfl, b6⟩
          have HB6 := Lib.hid (HB5.out.trans (b6.mono HB5.out.size))
          have HS6 := Lib.hid (show w6.rangeAt wr.heap.size 0 (Bl.mk ⟨z, x, y⟩ s).cells ∧ BlobsAt w6 (.slice (some ⟨b, o, none⟩) l.length c) l from ⟨rangeAt_fr HS5.out.1 (Fr.of_below b6 Nowhere) (fun h => h), HS5.out.2.fr (Fr.of_below b6 Nowhere) (fun _ _ h => h)⟩)
          clear b6
          refine ⟨_, rfl, ?_⟩
          simp only [Act.put, List.setIfInBounds_toArray, List.set_cons_zero, List.set_cons_succ]
          refine ⟨fun _ => HS6.out, ?_⟩
          rcases hls : (tlAt l i).less ⟨z, x, y⟩ with _ | _
          · have hbad : ordB l = false := ordB_false hic (by rw [HGI.out, hok, Nat.add_sub_cancel, hls]; simp)
            have HBAD := Lib.hid hbad
            clear hbad
            (refine seq_p (N := some 29) rfl rfl (by rfl) ?_ (fun w' => ?_) ?_
             rotate_left
             · go_simp
               with_reducible rfl
             simp only [Act.put, List.setIfInBounds_toArray, List.set_cons_zero, List.set_cons_succ])
            (refine seq_p (N := some 30) rfl rfl (by rfl) ?_ (fun w' => ?_) ?_
             rotate_left
             · go_simp
               with_reducible rfl
             simp only [Act.put, List.setIfInBounds_toArray, List.set_cons_zero, List.set_cons_succ])
            (refine seq_p (N := some 31) rfl rfl (by rfl) ?_ (fun w' => ?_) ?_
             rotate_left
             · go_simp
               with_reducible rfl
             simp only [Act.put, List.setIfInBounds_toArray, List.set_cons_zero, List.set_cons_succ])
            refine seq_nil ?_
            go_wp2_with fail
            go_ret
            exact ⟨by rw [HBAD.out]; rfl, HB6.out⟩
          · have HG : Hid (∀ j, j < i + 1 + 1 → goodAt l j = true) := by
              intro j hj
              by_cases hji : j = i + 1
              · rw [hji, HGI.out, hok, Nat.add_sub_cancel, hls]; simp
              · exact hg.out j (by omega)
            (refine seq_p (N := some 29) rfl rfl (by rfl) ?_ (fun w' => ?_) ?_
             rotate_left
             · go_simp
               with_reducible rfl
             simp only [Act.put, List.setIfInBounds_toArray, List.set_cons_zero, List.set_cons_succ])
            (refine seq_p (N := some 30) rfl rfl (by rfl) ?_ (fun w' => ?_) ?_
             rotate_left
             · go_simp
               with_reducible rfl
             simp only [Act.put, List.setIfInBounds_toArray, List.set_cons_zero, List.set_cons_succ])
            (refine seq_p (N := some 31) rfl rfl (by rfl) ?_ (fun w' => ?_) ?_
             rotate_left
             · go_simp
               with_reducible rfl
             simp only [Act.put, List.setIfInBounds_toArray, List.set_cons_zero, List.set_cons_succ])
            refine seq_nil ?_
            go_wp2_with fail
            go_roundw
            case rel => exact ⟨i + 1 + 1, by go_num, by omega, HG.out, HB6.out⟩
            case measure => simp [intOf]; omega
    · have hic' : ¬ (i : Int) < (l.length : Int) := by omega
      go_wp2_with fail
      go_ret
      exact ⟨by rw [ordB_true (fun j hj => hg.out j (by omega))]; rfl, hB.out⟩
end Go.Proofs.YtjflcpkmoamijaaGreatDoor
namespace Go.Proofs.YtjflcpkmoamijaaGreatDoor
open Go.RowKit
set_option linter.unusedVariables false
set_option linter.unusedSimpArgs false
set_option linter.unnecessarySimpa false

def encOne (s : ByteArray) (x : Bl) : ByteArray := putT (putI (putI (putI s x.t.z) x.t.x) x.t.y) x.s
def encP (ver : Int) (l : List Bl) : ByteArray := l.foldl encOne (app (putI ⟨#[]⟩ ver) (encU l.length))
def Bl.fits (x : Bl) : Prop := InInt x.t.z ∧ InInt x.t.x ∧ InInt x.t.y ∧ x.s.size ≤ 4294967296
theorem putI_size (b : ByteArray) (n : Int) : (putI b n).size ≤ b.size + 10 := by unfold putI; rw [app_size]; have := encU_len (zz n); omega
theorem putT_size (b s : ByteArray) : (putT b s).size ≤ b.size + 10 + s.size := by unfold putT; rw [ByteArray.size_append, app_size]; have := encU_len s.size; omega
theorem encOne_size (s : ByteArray) (x : Bl) (h : x.fits) : (encOne s x).size ≤ s.size + 4294967336 := by
  unfold encOne
  have h1 := putI_size s x.t.z
  have h2 := putI_size (putI s x.t.z) x.t.x
  have h3 := putI_size (putI (putI s x.t.z) x.t.x) x.t.y
  have h4 := putT_size (putI (putI (putI s x.t.z) x.t.x) x.t.y) x.s
  have h5 := h.2.2.2
  omega
theorem encStart_size (ver : Int) (n : Nat) : (app (putI ⟨#[]⟩ ver) (encU n)).size ≤ 20 := by
  rw [app_size]
  have h1 := putI_size ⟨#[]⟩ ver
  have h2 := encU_len n
  have : (⟨#[]⟩ : ByteArray).size = 0 := rfl
  omega
set_option maxHeartbeats 1000000 in
set_option maxRecDepth 100000 in
theorem encode_any (ver : Int) (v : Value) (l : List Bl) (w : World) (h : BlobsAt w v l) (hv : InInt ver) (hl : l.length ≤ 1000) (hf : ∀ x ∈ l, x.fits) :
    Calls Tryz.prog 55 #[.int .i64 ver, v] w fun e w' => e = .returned (.string (encP ver l)) ∧ Below w.heap.size w w' := by
  obtain ⟨ao, c, rfl, hne⟩ := h.sl
  have H := Lib.hid h
  have HNE := Lib.hid hne
  have HV := Lib.hid hv
  have HF := Lib.hid hf
  have hz : IntKind.u64.wrap (l.length : Int) = ((l.length : Nat) : Int) := by rw [wrap_u64']; omega
  have hst := encStart_size ver l.length
  have HE : Hid (encP ver l = l.foldl encOne (app (putI ⟨#[]⟩ ver) (encU l.length))) := rfl
  clear h hne hv hf
  go_enter Tryz.func55, Tryz.ntmps55
  go_wp2_with (first
    | (go_at_call 92; refine (PutInt_any ⟨#[]⟩ ver _ HV.out (by decide)).mono ?_; rintro e w1 ⟨rfl, hb1⟩; have HB1 := Lib.hid hb1; clear hb1)
    | (go_at_call 68; refine (PutUint_any (putI ⟨#[]⟩ ver) l.length _ (by omega) (by have := putI_size ⟨#[]⟩ ver; have : (⟨#[]⟩ : ByteArray).size = 0 := rfl; omega)).mono ?_; rintro e w2 ⟨rfl, hb2⟩; have HB2 := Lib.hid (HB1.out.trans (hb2.mono HB1.out.size)); clear hb2))
  generalize app (putI ⟨#[]⟩ ver) (encU l.length) = s0 at *
  go_loopw [5, 16] (fun sv v wr => ∃ (i : Nat) (s : ByteArray), sv = .string s ∧ v = .int .i64 i ∧ i ≤ l.length ∧ Hid (s = (l.take i).foldl encOne s0) ∧ s.size ≤ 20 + i * 4294967336 ∧ Hid (Below w.heap.size w wr)) (fun _ v _ => l.length - (intOf v).toNat)
  case atStart => exact ⟨0, s0, rfl, rfl, by omega, rfl, by omega, HB2.out⟩
  case round =>
    obtain ⟨i, s, rfl, rfl, hi, hs, hsz, hB⟩ := hrel
    by_cases hic : i < l.length
    · have hic' : (i : Int) < (l.length : Int) := by omega
      obtain ⟨b, o, rfl⟩ := HNE.out (by intro h; subst h; simp at hic)
      have Hr := Lib.hid (H.out.fr (Fr.of_below hB.out Nowhere) (fun _ _ h => h))
      have hx := Hr.out.nth i hic
      have hx4 := range4 hx
      have hfx := HF.out (l[i]) (List.getElem_mem hic)
      have hnext : Hid (encOne s (l[i]) = (l.take (i + 1)).foldl encOne s0) := by
        show _ = _; rw [List.take_succ_eq_append_getElem hic, List.foldl_append, ← hs.out]; rfl
      generalize l[i] = x at *
      obtain ⟨⟨z, x, y⟩, t⟩ := x
      have hnsz := Lib.hid (encOne_size s ⟨⟨z, x, y⟩, t⟩ hfx)
      have HFX := Lib.hid hfx
      obtain ⟨k0, k1, k2, k3⟩ := hx4
      simp only at k0 k1 k2 k3
      have hS0 : (wr.alloc (.cells #[.int .i64 z, .int .i64 x, .int .i64 y, .string t] 93)).rangeAt wr.heap.size 0 (Bl.mk ⟨z, x, y⟩ t).cells := range_new wr ⟨⟨z, x, y⟩, t⟩
      have hB1 : Below w.heap.size w (wr.alloc (.cells #[.int .i64 z, .int .i64 x, .int .i64 y, .string t] 93)) := hB.out.alloc hB.out.size _
      have HS0 := Lib.hid hS0
      have HB4 := Lib.hid hB1
      clear hx hfx hS0 hB1
      go_wp2_with fail
      clear k0 k1 k2 k3 Hr hB
      generalize wr.alloc (.cells #[.int .i64 z, .int .i64 x, .int .i64 y, .string t] 93) = w1 at *
      have hS := range4 (show w1.drew.rangeAt wr.heap.size 0 (Bl.mk ⟨z, x, y⟩ t).cells from HS0.out)
      simp only [Nat.zero_add] at hS
      refine region_seq (fun w' => w'.cell? ⟨wr.heap.size, 0, none⟩ = some (.int .i64 z) ∧ w'.cell? ⟨wr.heap.size, 1, none⟩ = some (.int .i64 x) ∧ w'.cell? ⟨wr.heap.size, 2, none⟩ = some (.int .i64 y) ∧ w'.cell? ⟨wr.heap.size, 3, none⟩ = some (.string t)) []
        [(.p, 0), (.p, 1), (.p, 2), (.q, 3), (.p, 5), (.p, 6), (.q, 7), (.p, 9), (.p, 10), (.q, 11), (.l, 4), (.l, 8), (.l, 12), (.p, 13)] (by kernel_rfl) (by kernel_rfl) (by kernel_rfl) (by kernel_rfl) (fun d v c a w h => by cases d <;> exact h) ?_
      (refine seq_p (N := some 20) rfl rfl (by rfl) ?_ (fun w' => ?_) ?_
       rotate_left
       · go_simp
         with_reducible rfl
       simp only [Act.put, List.setIfInBounds_toArray, List.set_cons_zero, List.set_cons_succ])
      (refine seq_p (N := some 21) rfl rfl (by rfl) ?_ (fun w' => ?_) ?_
       rotate_left
       · go_simp
         with_reducible rfl
       simp only [Act.put, List.setIfInBounds_toArray, List.set_cons_zero, List.set_cons_succ])
      (refine seq_p (N := some 22) rfl rfl (by rfl) ?_ (fun w' => ?_) ?_
       rotate_left
       · go_simp
         with_reducible rfl
       simp only [Act.put, List.setIfInBounds_toArray, List.set_cons_zero, List.set_cons_succ])
      (refine seq_q (N := some 23) rfl rfl (by rfl) ?_ ?_ hS ?_
       rotate_left
       · rintro w' ⟨s1, s2, s3, s4⟩
         go_simp
         with_reducible rfl
       simp only [Act.put, List.setIfInBounds_toArray, List.set_cons_zero, List.set_cons_succ])
      (refine seq_p (N := some 25) rfl rfl (by rfl) ?_ (fun w' => ?_) ?_
       rotate_left
       · go_simp
         with_reducible rfl
       simp only [Act.put, List.setIfInBounds_toArray, List.set_cons_zero, List.set_cons_succ])
      (refine seq_p (N := some 26) rfl rfl (by rfl) ?_ (fun w' => ?_) ?_
       rotate_left
       · go_simp
         with_reducible rfl
       simp only [Act.put, List.setIfInBounds_toArray, List.set_cons_zero, List.set_cons_succ])
      (refine seq_q (N := some 27) rfl rfl (by rfl) ?_ ?_ hS ?_
       rotate_left
       · rintro w' ⟨s1, s2, s3, s4⟩
         go_simp
         with_reducible rfl
       simp only [Act.put, List.setIfInBounds_toArray, List.set_cons_zero, List.set_cons_succ])
      (refine seq_p (N := some 29) rfl rfl (by rfl) ?_ (fun w' => ?_) ?_
       rotate_left
       · go_simp
         with_reducible rfl
       simp only [Act.put, List.setIfInBounds_toArray, List.set_cons_zero, List.set_cons_succ])
      (refine seq_p (N := some 30) rfl rfl (by rfl) ?_ (fun w' => ?_) ?_
       rotate_left
       · go_simp
         with_reducible rfl
       simp only [Act.put, List.setIfInBounds_toArray, List.set_cons_zero, List.set_cons_succ])
      (refine seq_q (N := some 31) rfl rfl (by rfl) ?_ ?_ hS ?_
       rotate_left
       · rintro w' ⟨s1, s2, s3, s4⟩
         go_simp
         with_reducible rfl
       simp only [Act.put, List.setIfInBounds_toArray, List.set_cons_zero, List.set_cons_succ])
      refine seq_l rfl (by rfl) (wp_cl (N := some 24) (f := 92) (vs := #[.string s, .int .i64 z]) rfl rfl (by simp [Act.eval]) (callF Tryz.func92 rfl (by decide) _ _) ?_)
      refine (PutInt_any s z _ HFX.out.1 (by omega)).mono ?_
      rintro e w5 ⟨rfl, bb⟩
      have HB5 := Lib.hid (HB4.out.drew.trans (bb.mono HB4.out.drew.size))
      have Rw5 := Lib.hid (rangeAt_fr (show w1.drew.rangeAt wr.heap.size 0 (Bl.mk ⟨z, x, y⟩ t).cells from HS0.out) (Fr.of_below bb Nowhere) (fun h => h))
      clear bb
      refine ⟨_, rfl, ?_⟩
      simp only [Act.put, List.setIfInBounds_toArray, List.set_cons_zero, List.set_cons_succ]
      refine ⟨fun _ => by have := range4 Rw5.out; simpa only [Nat.zero_add] using this, ?_⟩
      refine seq_l rfl (by rfl) (wp_cl (N := some 28) (f := 92) (vs := #[.string (putI s z), .int .i64 x]) rfl rfl (by simp [Act.eval]) (callF Tryz.func92 rfl (by decide) _ _) ?_)
      refine (PutInt_any (putI s z) x _ HFX.out.2.1 (by have := putI_size s z; omega)).mono ?_
      rintro e w6 ⟨rfl, bb⟩
      have HB6 := Lib.hid (HB5.out.trans (bb.mono HB5.out.size))
      have Rw6 := Lib.hid (rangeAt_fr (Rw5.out) (Fr.of_below bb Nowhere) (fun h => h))
      clear bb
      refine ⟨_, rfl, ?_⟩
      simp only [Act.put, List.setIfInBounds_toArray, List.set_cons_zero, List.set_cons_succ]
      refine ⟨fun _ => by have := range4 Rw6.out; simpa only [Nat.zero_add] using this, ?_⟩
      refine seq_l rfl (by rfl) (wp_cl (N := some 32) (f := 92) (vs := #[.string (putI (putI s z) x), .int .i64 y]) rfl rfl (by simp [Act.eval]) (callF Tryz.func92 rfl (by decide) _ _) ?_)
      refine (PutInt_any (putI (putI s z) x) y _ HFX.out.2.2.1 (by have := putI_size s z; have := putI_size (putI s z) x; omega)).mono ?_
      rintro e w7 ⟨rfl, bb⟩
      have HB7 := Lib.hid (HB6.out.trans (bb.mono HB6.out.size))
      have Rw7 := Lib.hid (rangeAt_fr (Rw6.out) (Fr.of_below bb Nowhere) (fun h => h))
      clear bb
      refine ⟨_, rfl, ?_⟩
      simp only [Act.put, List.setIfInBounds_toArray, List.set_cons_zero, List.set_cons_succ]
      refine ⟨fun _ => by have := range4 Rw7.out; simpa only [Nat.zero_add] using this, ?_⟩
      (refine seq_p (N := some 5) rfl rfl (by rfl) ?_ (fun w' => ?_) ?_
       rotate_left
       · go_simp
         with_reducible rfl
       simp only [Act.put, List.setIfInBounds_toArray, List.set_cons_zero, List.set_cons_succ])
      refine seq_nil ?_
      have k3 : w7.cell? ⟨wr.heap.size, 3, none⟩ = some (.string t) := by have := (range4 Rw7.out).2.2.2; simpa only [Nat.zero_add] using this
      have hts := HFX.out.2.2.2
      simp only at hts
      go_wp2_with fail
      refine (PutText_any (putI (putI (putI s z) x) y) t _ (by omega) (by have := putI_size s z; have := putI_size (putI s z) x; have := putI_size (putI (putI s z) x) y; omega)).mono ?_
      rintro e w8 ⟨rfl, bb⟩
      have HB8 := Lib.hid (HB7.out.trans (bb.mono HB7.out.size))
      clear bb
      go_wp2_with fail
      go_roundw
      case rel => exact ⟨i + 1, _, rfl, by go_num, by omega, hnext.out, by have := hnsz.out; unfold encOne at this; simp only at this; omega, HB8.out⟩
      case measure => simp [intOf]; omega
    · have hic' : ¬ (i : Int) < (l.length : Int) := by omega
      have hfin : Hid (s = encP ver l) := by
        show s = _
        rw [HE.out, hs.out, List.take_of_length_le (by omega)]
      go_wp2_with fail
      go_ret
      rw [hfin.out]
      exact ⟨rfl, hB.out⟩
end Go.Proofs.YtjflcpkmoamijaaGreatDoor
namespace Go.Proofs.YtjflcpkmoamijaaGreatDoor
open Go.RowKit
set_option linter.unusedVariables false
set_option linter.unusedSimpArgs false
set_option linter.unnecessarySimpa false

theorem info_blob : (Tryz.prog.info? 93).map (fun i => (i.zero, i.size, i.bytes)) = some (some (.agg #[.int .i64 0, .int .i64 0, .int .i64 0, .string ⟨#[]⟩]), 4, 40) := by kernel_rfl
theorem run_build_blob (w : World) (t : Tl) (s : ByteArray) : (Instr.build 93 #[(0, t.v), (1, .string s)]).run Tryz.prog w = .ok (Bl.v ⟨t, s⟩) w := by kernel_rfl
theorem run_build_tile (w : World) (z x y : Int) : (Instr.build 91 #[(0, .int .i64 z), (1, .int .i64 x), (2, .int .i64 y)]).run Tryz.prog w = .ok (Tl.v ⟨z, x, y⟩) w := by kernel_rfl
theorem run_bs_blob (w : World) (b : Bl) : (Instr.buildSlice 35 1 #[(0, b.v)]).run Tryz.prog w = .ok (.slice (some ⟨w.heap.size, 0, none⟩) 1 1) (w.alloc (.cells b.cells.toArray 93)) := by kernel_rfl
/-- Where the reader stands behind three numbers and a text. -/
def rd3 (s : ByteArray) (a : Nat) (er : Int) : Nat × Int := (uintM s (uintM s (uintM s a er).2.1 (uintM s a er).2.2).2.1 (uintM s (uintM s a er).2.1 (uintM s a er).2.2).2.2).2
def rdTile (s : ByteArray) (a : Nat) (er : Int) : Tl :=
  ⟨zig (uintM s a er).1, zig (uintM s (uintM s a er).2.1 (uintM s a er).2.2).1, zig (uintM s (uintM s (uintM s a er).2.1 (uintM s a er).2.2).2.1 (uintM s (uintM s a er).2.1 (uintM s a er).2.2).2.2).1⟩
def rdText (s : ByteArray) (a : Nat) (er : Int) : ByteArray × Nat × Int := textM s (rd3 s a er).1 (rd3 s a er).2 s.size
def decLoop (s : ByteArray) : Nat → Nat → Int → List Bl → (Nat × Int) × List Bl
  | 0, a, er, l => ((a, er), l)
  | n + 1, a, er, l => if (rdText s a er).2.2 ≠ 0 then ((rdText s a er).2, l ++ [⟨rdTile s a er, (rdText s a er).1⟩])
    else decLoop s n (rdText s a er).2.1 (rdText s a er).2.2 (l ++ [⟨rdTile s a er, (rdText s a er).1⟩])
def decP (s : ByteArray) : Int × List Bl × Bool :=
  let c := countM s (uintM s 0 0).2.1 (uintM s 0 0).2.2 s.size
  let r := decLoop s c.1.toNat c.2.1 c.2.2 []
  (zig (uintM s 0 0).1, r.2, doneM s r.1.1 r.1.2 == 0)
theorem countM_le {s : ByteArray} {a : Nat} {er most : Int} (h : a ≤ s.size) : (countM s a er most).2.1 ≤ s.size := by
  unfold countM; split
  · split
    · show (uintR s a).2.2 ≤ _; exact uintR_le h
    · exact h
  · exact h
theorem countM_range {s : ByteArray} {a : Nat} {er most : Int} (h0 : 0 ≤ most) (hm : most ≤ 140737488351232) : 0 ≤ (countM s a er most).1 ∧ (countM s a er most).1 ≤ most := by
  unfold countM; split
  · split
    · rename_i h2; have := countR_range hm h2; exact ⟨this.1, this.2.1⟩
    · exact ⟨Int.le_refl _, h0⟩
  · exact ⟨Int.le_refl _, h0⟩
theorem textM_le {s : ByteArray} {a : Nat} {er most : Int} (h : a ≤ s.size) (hm : most ≤ 140737488351232) : (textM s a er most).2.1 ≤ s.size := by
  unfold textM; split
  · split
    · rename_i h2
      unfold textR at h2 ⊢
      split
      · rename_i h3
        split
        · show (uintR s a).2.2 ≤ _; exact uintR_le h
        · rename_i h4
          have h5 := countR_range hm h3
          have h6 : (countR s a most).2.2 ≤ s.size := uintR_le h
          simp only; omega
      · show (uintR s a).2.2 ≤ _; exact uintR_le h
    · exact h
  · exact h
structure DecInv (w wr : World) (s : ByteArray) (a : Nat) (er : Int) (v : Value) (l : List Bl) : Prop where
  rd : IsRd wr w.heap.size s a er
  own : wr.ownsRow w.heap.size 93 4 v l.length (l.flatMap Bl.cells)
  bel : Below w.heap.size w wr
  lt : w.heap.size < wr.heap.size
def DecPost (s : ByteArray) (w : World) (e : Ending) (w' : World) : Prop :=
  ∃ v, e = .returned (.tuple #[.int .i64 (decP s).1, v, .bool (decP s).2.2]) ∧ w'.ownsRow w.heap.size 93 4 v (decP s).2.1.length ((decP s).2.1.flatMap Bl.cells) ∧ Below w.heap.size w w'
set_option maxHeartbeats 1000000 in
set_option maxRecDepth 100000 in
theorem decode_any (s : ByteArray) (w : World) (hs : s.size ≤ 1000000000) :
    Calls Tryz.prog 46 #[.string s] w (DecPost s w) := by
  have hs' : s.size ≤ 140737488351232 := by omega
  have HS := Lib.hid hs'
  have HS9 := Lib.hid hs
  have HD : Hid (decP s = (zig (uintM s 0 0).1, (decLoop s (countM s (uintM s 0 0).2.1 (uintM s 0 0).2.2 s.size).1.toNat (countM s (uintM s 0 0).2.1 (uintM s 0 0).2.2 s.size).2.1 (countM s (uintM s 0 0).2.1 (uintM s 0 0).2.2 s.size).2.2 []).2,
    doneM s (decLoop s (countM s (uintM s 0 0).2.1 (uintM s 0 0).2.2 s.size).1.toNat (countM s (uintM s 0 0).2.1 (uintM s 0 0).2.2 s.size).2.1 (countM s (uintM s 0 0).2.1 (uintM s 0 0).2.2 s.size).2.2 []).1.1
      (decLoop s (countM s (uintM s 0 0).2.1 (uintM s 0 0).2.2 s.size).1.toNat (countM s (uintM s 0 0).2.1 (uintM s 0 0).2.2 s.size).2.1 (countM s (uintM s 0 0).2.1 (uintM s 0 0).2.2 s.size).2.2 []).1.2 == 0)) := rfl
  have hle1 := uintM_le (err := 0) (Nat.zero_le s.size)
  have HU : ∀ (g : Nat) (w : World), IsRd w g s 0 0 → Calls Tryz.prog 75 #[.pointer (some ⟨g, 0, none⟩)] w (RdPost g s (uintM s 0 0).2 w (.int .i64 (zig (uintM s 0 0).1))) := fun g w h => Int_any g s 0 0 w hs' (Nat.zero_le _) h
  generalize uintM s 0 0 = x1 at *
  obtain ⟨n1, a1, e1⟩ := x1
  simp only at hle1 HU HD
  have hle2 := countM_le (er := e1) (most := s.size) hle1
  have hcr := countM_range (s := s) (a := a1) (er := e1) (most := s.size) (by omega) (by omega)
  have HC : ∀ (g : Nat) (w : World), IsRd w g s a1 e1 → Calls Tryz.prog 76 #[.pointer (some ⟨g, 0, none⟩), .int .i64 s.size] w (RdPost g s (countM s a1 e1 s.size).2 w (.int .i64 (countM s a1 e1 s.size).1)) := fun g w h => Count_any g s a1 e1 s.size w hs' hle1 (by omega) (by omega) h
  generalize countM s a1 e1 s.size = x2 at *
  obtain ⟨n2, a2, e2⟩ := x2
  simp only at hle2 hcr HC HD
  obtain ⟨n, rfl⟩ := Int.eq_ofNat_of_zero_le hcr.1
  have hn : n ≤ s.size := by omega
  have hn9 : n ≤ 1000000000 := by omega
  rw [Int.toNat_natCast] at HD
  clear hs hs' hcr
  go_enter Tryz.func46, Tryz.ntmps46
  go_wp2_with fail
  refine (Read_any s _).mono ?_
  rintro e w2 ⟨rfl, r2, b2⟩
  have R2 := Lib.hid r2
  have B2 := Lib.hid b2
  clear r2 b2
  go_wp2_with fail
  refine (HU _ _ R2.out).mono ?_
  rintro e w3 ⟨rfl, r3, f3⟩
  have b3 : Below w.heap.size w w3 := B2.out.trans (f3.below B2.out.size (by rintro i rfl; omega))
  have R3 := Lib.hid r3
  have B3 := Lib.hid b3
  clear r3 f3 b3 R2 B2 w2
  go_wp2_with fail
  refine (HC _ _ R3.out).mono ?_
  rintro e w4 ⟨rfl, r4, f4⟩
  have b4 : Below w.heap.size w w4 := B3.out.trans (f4.below B3.out.size (by rintro i rfl; omega))
  have I4 : Hid (DecInv w w4 s a2 e2 (.slice none 0 0) []) := ⟨r4, World.ownsRow_nil _ _ _ _, b4, r4.lt⟩
  clear r4 f4 b4 R3 B3 w3 HU HC
  go_wp2_with fail
  go_loopw [8, 19] (fun dv v wr => ∃ (i a : Nat) (er : Int) (l : List Bl), v = .int .i64 i ∧ i ≤ n ∧ Hid (decLoop s n a2 e2 [] = decLoop s (n - i) a er l) ∧ a ≤ s.size ∧ l.length = i ∧ Hid (DecInv w wr s a er dv l)) (fun _ v _ => n - (intOf v).toNat)
  case atStart => exact ⟨0, a2, e2, [], rfl, by omega, rfl, hle2, rfl, I4.out⟩
  case round =>
    obtain ⟨i, a, er, l, rfl, hi, hdl, hal, hll, hI⟩ := hrel
    by_cases hic : i < n
    · have hic' : (i : Int) < (n : Int) := by omega
      have R0 := Lib.hid hI.out.rd
      have hb1 := uintM_le (err := er) hal
      have hb2 := uintM_le (err := (uintM s a er).2.2) hb1
      have hb3 := uintM_le (err := (uintM s (uintM s a er).2.1 (uintM s a er).2.2).2.2) hb2
      have HT3 : Hid (rd3 s a er = (uintM s (uintM s (uintM s a er).2.1 (uintM s a er).2.2).2.1 (uintM s (uintM s a er).2.1 (uintM s a er).2.2).2.2).2) := rfl
      have hb4 := textM_le (s := s) (a := (rd3 s a er).1) (er := (rd3 s a er).2) (most := s.size) (by exact hb3) (by have := HS.out; omega)
      have HSTEP : Hid (decLoop s (n - i) a er l = if (rdText s a er).2.2 ≠ 0 then ((rdText s a er).2, l ++ [⟨rdTile s a er, (rdText s a er).1⟩])
          else decLoop s (n - (i + 1)) (rdText s a er).2.1 (rdText s a er).2.2 (l ++ [⟨rdTile s a er, (rdText s a er).1⟩])) := by
        show _ = _
        rw [show n - i = (n - (i + 1)) + 1 by omega]; rfl
      have C1 := Lib.hid (Int_any w.heap.size s a er wr HS.out hal R0.out)
      go_wp2_with fail
      refine C1.out.mono ?_
      rintro e w5 ⟨rfl, r5, f5⟩
      have R5 := Lib.hid r5
      have F5 := Lib.hid f5
      clear r5 f5 C1
      go_wp2_with fail
      refine (Int_any w.heap.size s _ _ w5 HS.out hb1 R5.out).mono ?_
      rintro e w6 ⟨rfl, r6, f6⟩
      have R6 := Lib.hid r6
      have F6 := Lib.hid (F5.out.tr f6)
      clear r6 f6 R5 F5
      go_wp2_with fail
      refine (Int_any w.heap.size s _ _ w6 HS.out hb2 R6.out).mono ?_
      rintro e w7 ⟨rfl, r7, f7⟩
      have R7 := Lib.hid r7
      have F7 := Lib.hid (F6.out.tr f7)
      clear r7 f7 R6 F6
      have HTILE : Hid (rdTile s a er = ⟨zig (uintM s a er).1, zig (uintM s (uintM s a er).2.1 (uintM s a er).2.2).1, zig (uintM s (uintM s (uintM s a er).2.1 (uintM s a er).2.2).2.1 (uintM s (uintM s a er).2.1 (uintM s a er).2.2).2.2).1⟩) := rfl
      have R7b : Hid (IsRd w7 w.heap.size s (rd3 s a er).1 (rd3 s a er).2) := by show IsRd _ _ _ _ _; rw [HT3.out]; exact R7.out
      have hb3' : (rd3 s a er).1 ≤ s.size := by rw [HT3.out]; exact hb3
      clear R7 hb1 hb2 hb3 R0 HT3
      generalize zig (uintM s (uintM s (uintM s a er).2.1 (uintM s a er).2.2).2.1 (uintM s (uintM s a er).2.1 (uintM s a er).2.2).2.2).1 = ty at *
      generalize zig (uintM s (uintM s a er).2.1 (uintM s a er).2.2).1 = tx at *
      generalize zig (uintM s a er).1 = tz at *
      have hbt := fun w => run_build_tile w tz tx ty
      have hlt7 : w.heap.size < w7.heap.size := R7b.out.lt
      have hb7 : Below w.heap.size w w7 := hI.out.bel.trans (F7.out.below hI.out.bel.size (by rintro i rfl; omega))
      have own7 : w7.ownsRow w.heap.size 93 4 u8 l.length (l.flatMap Bl.cells) := F7.out.owns hI.out.own (fun k hk => own_ne hI.out.own hI.out.rd (by decide) hk)
      have t8 : (w7.alloc (.cells #[.int .i64 tz, .int .i64 tx, .int .i64 ty] 91)).rangeAt w7.heap.size 0 (Tl.mk tz tx ty).cells := by
        intro j u hj; rw [Nat.zero_add, World.cell?_alloc_new, ← hj]; simp [Tl.cells]
      have R8 : Hid (IsRd (w7.alloc (.cells #[.int .i64 tz, .int .i64 tx, .int .i64 ty] 91)) w.heap.size s (rd3 s a er).1 (rd3 s a er).2) := R7b.out.alloc _
      have HT8 := Lib.hid t8
      have HB8 := Lib.hid (hb7.alloc hb7.size (.cells #[.int .i64 tz, .int .i64 tx, .int .i64 ty] 91))
      have HO8 := Lib.hid (own7.alloc (.cells #[.int .i64 tz, .int .i64 tx, .int .i64 ty] 91))
      have HL8 : Hid (w7.heap.size < (w7.alloc (.cells #[.int .i64 tz, .int .i64 tx, .int .i64 ty] 91)).heap.size) := by show _ < _; simp
      have HE8 : Hid ((w7.alloc (.cells #[.int .i64 tz, .int .i64 tx, .int .i64 ty] 91)).heap[w7.heap.size]? = some (.cells #[.int .i64 tz, .int .i64 tx, .int .i64 ty] 91 (0, 0))) := heap_alloc_new w7 _
      clear hb7 own7 t8 R7b F7 hI
      go_wp2_with fail
      generalize w7.alloc (.cells #[.int .i64 tz, .int .i64 tx, .int .i64 ty] 91) = w8 at *
      have hS : w8.drew.rangeAt w7.heap.size 0 (Tl.mk tz tx ty).cells := HT8.out
      refine region_seq (fun w' => w'.rangeAt w7.heap.size 0 (Tl.mk tz tx ty).cells) []
        [(.p, 0), (.q, 1), (.p, 2), (.p, 3), (.p, 4), (.l, 5), (.p, 6), (.l, 7), (.l, 8), (.p, 9)] (by kernel_rfl) (by kernel_rfl) (by kernel_rfl) (by kernel_rfl) (fun d v c a w h => by cases d <;> exact h) ?_
      (refine seq_p (N := some 28) rfl rfl (by rfl) ?_ (fun w' => ?_) ?_
       rotate_left
       · go_simp
         with_reducible rfl
       simp only [Act.put, List.setIfInBounds_toArray, List.set_cons_zero, List.set_cons_succ])
      (refine seq_q (N := some 29) rfl rfl (by rfl) (Tl.mk tz tx ty).v ?_ hS ?_
       · intro w' s1
         exact run_ld rfl rfl (load_tile s1)
       simp only [Act.put, List.setIfInBounds_toArray, List.set_cons_zero, List.set_cons_succ])
      (refine seq_p (N := some 30) rfl rfl (by rfl) ?_ (fun w' => ?_) ?_
       rotate_left
       · go_simp
         with_reducible rfl
       simp only [Act.put, List.setIfInBounds_toArray, List.set_cons_zero, List.set_cons_succ])
      (refine seq_p (N := some 31) rfl rfl (by rfl) ?_ (fun w' => ?_) ?_
       rotate_left
       · go_simp
         with_reducible rfl
       simp only [Act.put, List.setIfInBounds_toArray, List.set_cons_zero, List.set_cons_succ])
      (refine seq_p (N := some 32) rfl rfl (by rfl) ?_ (fun w' => ?_) ?_
       rotate_left
       · go_simp
         with_reducible rfl
       simp only [Act.put, List.setIfInBounds_toArray, List.set_cons_zero, List.set_cons_succ])
      refine seq_l rfl (by rfl) (wp_cl (N := some 33) (f := 77) (vs := #[.pointer (some ⟨w.heap.size, 0, none⟩), .int .i64 s.size]) rfl rfl (by simp [Act.eval]) (callF Tryz.func77 rfl (by decide) _ _) ?_)
      refine (Text_any w.heap.size s _ _ s.size w8.drew HS.out hb3' (by omega) (by have := HS.out; omega) R8.out).mono ?_
      rintro e w9 ⟨rfl, r9, f9⟩
      have F9 : Fr w8 w9 (· = w.heap.size) := ((Fr.refl w8 _).drew).tr f9
      have hne9 : ¬ (w7.heap.size = w.heap.size) := by omega
      have R9 : Hid (IsRd w9 w.heap.size s (rdText s a er).2.1 (rdText s a er).2.2) := r9
      have HT9 := Lib.hid (rangeAt_fr HT8.out F9 hne9)
      have HE9 := Lib.hid (F9.heap HE8.out hne9)
      have HB9 := Lib.hid (HB8.out.trans (F9.below HB8.out.size (by rintro i rfl; omega)))
      have HO9 := Lib.hid (F9.owns HO8.out (fun k hk => own_ne HO8.out R8.out (by decide) hk))
      have hb4' : (rdText s a er).2.1 ≤ s.size := hb4
      have HX9 : Hid (textM s (rd3 s a er).1 (rd3 s a er).2 s.size = rdText s a er) := rfl
      refine ⟨_, rfl, ?_⟩
      simp only [Act.put, List.setIfInBounds_toArray, List.set_cons_zero, List.set_cons_succ]
      rw [HX9.out]
      refine ⟨fun _ => HT9.out, ?_⟩
      clear r9 f9 F9 hS hb4 HX9 hne9 R8 HT8 HE8 HB8 HO8 HL8
      generalize rdText s a er = rt at *
      obtain ⟨tt, a9, e9⟩ := rt
      simp only at HSTEP R9 hb4'
      have hS : w9.rangeAt w7.heap.size 0 (Tl.mk tz tx ty).cells := HT9.out
      refine seq_p (N := some 34) rfl rfl (by rfl) (Bl.v ⟨⟨tz, tx, ty⟩, tt⟩) (fun w' => run_bd (ps := #[(0, (Tl.mk tz tx ty).v), (1, .string tt)]) rfl (by simp [Act.eval]) (run_build_blob w' ⟨tz, tx, ty⟩ tt)) ?_
      simp only [Act.put, List.setIfInBounds_toArray, List.set_cons_zero, List.set_cons_succ]
      refine seq_l rfl (by rfl) (wp_bs (N := some 35) (ps := #[(0, Bl.v ⟨⟨tz, tx, ty⟩, tt⟩)]) rfl rfl (by simp [Act.eval]) (run_bs_blob _ ⟨⟨tz, tx, ty⟩, tt⟩) ?_)
      simp only [Act.put, List.setIfInBounds_toArray, List.set_cons_zero, List.set_cons_succ]
      refine ⟨fun _ => rangeAt_fr HT9.out ((Fr.refl _ Nowhere).alloc _) (fun h => h), ?_⟩
      refine seq_l rfl (by rfl) (wp_app1 (W := w9) (N := some 36) (Bl.mk ⟨tz, tx, ty⟩ tt).cells.toArray _ _ 35 93 (.agg #[.int .i64 0, .int .i64 0, .int .i64 0, .string ⟨#[]⟩]) 4 40 w.heap.size rfl rfl Tryz.underlying35 info_blob rfl (by omega) (by omega) u8 l.length (l.flatMap Bl.cells) rfl rfl rfl (by intro u hu; simp [Bl.cells] at hu; rcases hu with rfl | rfl | rfl | rfl <;> rfl) HO9.out HB9.out.size (by have := HS9.out; omega) ?_)
      intro v10 w10 hown10 hg10 hat10
      simp only [Act.put, List.setIfInBounds_toArray, List.set_cons_zero, List.set_cons_succ]
      have hT10 : w10.rangeAt w7.heap.size 0 (Tl.mk tz tx ty).cells := rangeAt_fr (S := fun k => u8.ownBlock = some k) HT9.out (Fr.grown hg10 (fun k hk _ => hk)) (fun e => own_ne HO9.out HE9.out (by decide) e rfl)
      refine ⟨fun _ => hT10, ?_⟩
      have HI : Hid (DecInv w w10 s a9 e9 v10 (l ++ [⟨⟨tz, tx, ty⟩, tt⟩])) := by
        refine ⟨?_, ?_, ?_, ?_⟩
        · exact R9.out.fr (S := fun k => u8.ownBlock = some k) (Fr.grown hg10 (fun k hk _ => hk)) (fun e => own_ne HO9.out R9.out (by decide) e rfl)
        · have e1 : (l ++ [(⟨⟨tz, tx, ty⟩, tt⟩ : Bl)]).flatMap Bl.cells = l.flatMap Bl.cells ++ (Bl.mk ⟨tz, tx, ty⟩ tt).cells.toArray.toList := by simp
          rw [e1, List.length_append]; exact hown10
        · exact HB9.out.trans ((Fr.grown (S := fun k => u8.ownBlock = some k) hg10 (fun k hk _ => hk)).below HB9.out.size (fun k hk => (own_base' HO9.out hk).1))
        · exact Nat.lt_of_lt_of_le R9.out.lt hg10.size
      have hcell : v10.oneCell' = true := own_cell hown10
      clear hown10 hg10 hat10 hT10 hS HT9 HE9 HB9 HO9
      (refine seq_p (N := some 8) rfl rfl (by rfl) ?_ (fun w' => ?_) ?_
       rotate_left
       · go_simp
         with_reducible rfl
       simp only [Act.put, List.setIfInBounds_toArray, List.set_cons_zero, List.set_cons_succ])
      refine seq_nil ?_
      have C10 := Lib.hid (Err_any _ _ _ _ _ HI.out.rd)
      by_cases he9 : e9 = 0
      · subst he9
        have HSTEP2 : Hid (decLoop s n a2 e2 [] = decLoop s (n - (i + 1)) a9 0 (l ++ [⟨⟨tz, tx, ty⟩, tt⟩])) := by
          show _ = _; rw [hdl.out, HSTEP.out, if_neg (by simp), HTILE.out]
        go_wp2_with (refine C10.out.mono ?_; rintro e w11 ⟨rfl, rfl⟩)
        go_roundw
        case rel => exact ⟨i + 1, a9, 0, _, by go_num, by omega, HSTEP2.out, hb4', by simp; omega, HI.out⟩
        case measure => simp [intOf]; omega
      · have HSTEP2 : Hid (decLoop s n a2 e2 [] = ((a9, e9), l ++ [⟨⟨tz, tx, ty⟩, tt⟩])) := by
          show _ = _; rw [hdl.out, HSTEP.out, if_pos he9, HTILE.out]
        have hfin : decP s = (zig n1, l ++ [⟨⟨tz, tx, ty⟩, tt⟩], doneM s a9 e9 == 0) := by
          rw [HD.out, HSTEP2.out]
        have HFIN := Lib.hid hfin
        clear hfin
        have D10 := Lib.hid (Done_any _ _ _ _ _ HS.out hb4' HI.out.rd)
        go_wp2_with (first
          | (refine C10.out.mono ?_; rintro e w11 ⟨rfl, rfl⟩)
          | (refine D10.out.mono ?_; rintro e w12 ⟨rfl, nd, rfl⟩))
        go_ret3
        refine ⟨v10, by rw [HFIN.out]; rfl, by rw [HFIN.out]; exact HI.out.own, below_drewN HI.out.bel _⟩
    · have hic' : ¬ (i : Int) < (n : Int) := by omega
      have hdl2 : decLoop s n a2 e2 [] = ((a, er), l) := by rw [hdl.out, show n - i = 0 by omega]; rfl
      have hfin : decP s = (zig n1, l, doneM s a er == 0) := by
        rw [HD.out, hdl2]
      have HFIN := Lib.hid hfin
      clear hfin
      have D10 := Lib.hid (Done_any _ _ _ _ _ HS.out hal hI.out.rd)
      clear hdl2
      go_wp2_with (refine D10.out.mono ?_; rintro e w12 ⟨rfl, nd, rfl⟩)
      go_ret3
      refine ⟨u8, by rw [HFIN.out]; rfl, by rw [HFIN.out]; exact hI.out.own, below_drewN hI.out.bel _⟩
end Go.Proofs.YtjflcpkmoamijaaGreatDoor
namespace Go.Proofs.YtjflcpkmoamijaaGreatDoor
open Go.RowKit
open Go.Maps (Keyed)
set_option linter.unusedVariables false
set_option linter.unusedSimpArgs false
set_option linter.unnecessarySimpa false

theorem klaw : Keyed Tryz.prog 91 :=
  Keyed.of_law (deep_law_laid (by kernel_rfl) (m := 5) (by omega) (of_decide_eq_true (by kernel_rfl)) (by kernel_rfl) (by kernel_rfl))
def Tl.fits (t : Tl) : Prop := InInt t.z ∧ InInt t.x ∧ InInt t.y
def Tl.lits (t : Tl) : List Lit := [.int .i64 t.z, .int .i64 t.x, .int .i64 t.y]
def Tl.key (t : Tl) : Lit := .string (keyBytes t.lits)
theorem wf_int {n : Int} (h : InInt n) : (Lit.int .i64 n).wf = true := by
  unfold InInt at h
  have h1 : IntKind.i64.min = -9223372036854775808 := by decide
  have h2 : IntKind.i64.max = 9223372036854775807 := by decide
  simp [Lit.wf, h1, h2]
  omega
set_option maxRecDepth 100000 in
theorem key_of (t : Tl) (h : t.fits) : keyOf Tryz.prog 91 t.v = some t.key := by
  have w1 := wf_int h.1
  have w2 := wf_int h.2.1
  have w3 := wf_int h.2.2
  have hkt : Tryz.prog.keyType 91 = true := by kernel_rfl
  have hc : Tryz.prog.cellsOf 91 = 3 := by kernel_rfl
  have hc3 : Tryz.prog.cellsOf 3 = 1 := by kernel_rfl
  have hsz : ∃ m, Tryz.prog.types.size = m + 1 := ⟨Tryz.prog.types.size - 1, by kernel_rfl⟩
  obtain ⟨m, hm⟩ := hsz
  unfold keyOf
  rw [Tryz.underlying91]
  simp only []
  rw [if_pos (by simp [hkt, Value.formed, Tl.v, Tryz.underlying91, hc]), hm]
  unfold Program.keyLits
  rw [Tryz.underlying91]
  simp only [Tl.v, Value.cells]
  simp [hc, List.mapM_cons, Program.keyLits, Tryz.underlying3, hc3, w1, w2, w3, Tl.key, Tl.lits]
end Go.Proofs.YtjflcpkmoamijaaGreatDoor
namespace Go.Proofs.YtjflcpkmoamijaaGreatDoor
open Go.RowKit
open Go.Maps (Keyed)
set_option linter.unusedVariables false
set_option linter.unusedSimpArgs false
set_option linter.unnecessarySimpa false

theorem key_inj {t t' : Tl} (h : t.fits) (h' : t'.fits) (e : t.key = t'.key) : t = t' := by
  have := klaw.inj (key_of t h) (e ▸ key_of t' h')
  obtain ⟨z, x, y⟩ := t
  obtain ⟨z', x', y'⟩ := t'
  simp [Tl.v] at this
  simp [this]
theorem key_lit (t : Tl) : Go.WideAt.IsKeyLit t.key := trivial
def look (T : List Bl) (t : Tl) : Option ByteArray := (T.find? (fun b => decide (b.t = t))).map (·.s)
def insT : List Bl → Bl → List Bl
  | [], x => [x]
  | y :: r, x => if x.t = y.t then x :: r else if x.t.less y.t then x :: y :: r else y :: insT r x
def delT (T : List Bl) (t : Tl) : List Bl := T.filter (fun b => decide (b.t ≠ t))
def patch1 (T : List Bl) (x : Bl) : List Bl := if x.s.size = 0 then delT T x.t else insT T x
theorem look_cons (y : Bl) (r : List Bl) (t : Tl) : look (y :: r) t = if y.t = t then some y.s else look r t := by
  unfold look
  rw [List.find?_cons]
  by_cases h : y.t = t <;> simp [h]
theorem look_ins (T : List Bl) (x : Bl) (t : Tl) : look (insT T x) t = if x.t = t then some x.s else look T t := by
  induction T with
  | nil => rw [insT, look_cons]
  | cons y r ih =>
    rw [insT]
    split
    · rename_i h
      rw [look_cons, look_cons, ← h]
      split <;> rfl
    · rename_i h
      split
      · rw [look_cons]
      · rw [look_cons, ih, look_cons]
        by_cases h1 : y.t = t
        · have : x.t ≠ t := fun e => h (e.trans h1.symm)
          simp [h1, this]
        · simp [h1]
theorem look_del (T : List Bl) (t0 t : Tl) : look (delT T t0) t = if t0 = t then none else look T t := by
  unfold delT
  induction T with
  | nil => simp [look]
  | cons y r ih =>
    rw [List.filter_cons]
    by_cases hy : y.t = t0
    · simp only [hy, ne_eq, not_true_eq_false, decide_false, Bool.false_eq_true, if_false]
      rw [ih, look_cons, hy]
      split <;> rfl
    · simp only [ne_eq, hy, not_false_eq_true, decide_true, if_true]
      rw [look_cons, ih, look_cons]
      by_cases h1 : y.t = t
      · have : t0 ≠ t := fun e => hy (h1.trans e.symm)
        simp [h1, this]
      · simp [h1]
def Rep (D : DataW Unit) (T : List Bl) : Prop := Maps.IsMap D ∧ ∀ t : Tl, t.fits → ∀ z, D.atKey t.key z = match look T t with | some s => .lit (.string s.data.toList) | none => z
/-- Block b is a map of at most n entries that holds the tiles T. -/
def MapIs (w : World) (b n : Nat) (T : List Bl) : Prop := ∃ D : DataW Unit, w.ownsMap Tryz.prog 91 (plainElem Tryz.prog 9) b n D ∧ Rep D T
theorem MapIs.made (w : World) : MapIs (w.alloc (.map #[] 0)) w.heap.size 0 [] := by
  refine ⟨_, World.ownsMap_made _ _ _ _, Maps.isMap_empty, fun t ht z => ?_⟩
  rfl
theorem MapIs.lt {w : World} {b n : Nat} {T : List Bl} (h : MapIs w b n T) : b < w.heap.size := by obtain ⟨D, h1, _⟩ := h; exact h1.lt
theorem MapIs.fr {w w' : World} {b n : Nat} {T : List Bl} {S : Nat → Prop} (h : MapIs w b n T) (k : Fr w w' S) (hn : ¬ S b) : MapIs w' b n T := by
  obtain ⟨D, h1, h2⟩ := h
  have hb := k.block b h1.lt hn
  obtain ⟨es, clock, he, rest⟩ := h1
  exact ⟨D, ⟨es, clock, hb.trans he, rest⟩, h2⟩
theorem MapIs.drewN {w : World} {b n : Nat} {T : List Bl} (h : MapIs w b n T) (k : Nat) : MapIs (w.drewN k) b n T := h.fr ((Fr.refl w Nowhere).drewN k) (fun h => h)
/-- A map's block is no row of cells. -/
theorem MapIs.ne_cells {w : World} {b n : Nat} {T : List Bl} (h : MapIs w b n T) {k : Nat} {c : Array Value} {e : TypeId} {f : Nat × Nat} (hk : w.heap[k]? = some (.cells c e f)) : k ≠ b := by
  rintro rfl
  obtain ⟨D, ⟨es, clock, he, _⟩, _⟩ := h
  rw [hk] at he
  cases he
theorem MapIs.store {w : World} {b n : Nat} {T : List Bl} (h : MapIs w b n T) (x : Bl) (hx : x.t.fits) (hs : x.s.size ≤ maxLen) (hn : n < maxLen) :
    ∃ w', (Instr.mapUpdate 82 (.map (some b)) x.t.v (.string x.s)).run Tryz.prog w = .ok () w' ∧ MapIs w' b (n + 1) (insT T x) ∧ w.grownBy w' (some b) := by
  obtain ⟨D, h1, h2, h3⟩ := h
  obtain ⟨w', hr, ho, hg⟩ := h1.update klaw Tryz.underlying82 hn (key_of x.t hx) (plainElem_string Tryz.underlying9 hs)
  refine ⟨w', hr, ⟨_, ho, h2.put _ _, fun t ht z => ?_⟩, hg⟩
  rw [look_ins]
  by_cases he : x.t = t
  · subst he
    rw [Maps.atKey_put_same h2 (key_lit _), if_pos rfl]
  · rw [Maps.atKey_put_other (fun e => he (key_inj ht hx e).symm), if_neg he]
    exact h3 t ht z
theorem MapIs.drop {w : World} {b n : Nat} {T : List Bl} (h : MapIs w b n T) (t0 : Tl) (hx : t0.fits) (ty : TypeId) :
    ∃ w', (Builtin.delete_ #[82, 91] ty #[.map (some b), t0.v]).run Tryz.prog w = .ok (.tuple #[]) w' ∧ MapIs w' b n (delT T t0) ∧ w.grownBy w' (some b) := by
  obtain ⟨D, h1, h2, h3⟩ := h
  obtain ⟨w', hr, ho, hg⟩ := h1.drop klaw Tryz.underlying82 (key_of t0 hx) ty
  refine ⟨w', hr, ⟨_, ho, h2.del _, fun t ht z => ?_⟩, hg.grown⟩
  rw [look_del]
  by_cases he : t0 = t
  · subst he
    rw [Maps.atKey_del_same, if_pos rfl]
  · rw [Maps.atKey_del_other (fun e => he (key_inj ht hx e).symm), if_neg he]
    exact h3 t ht z
end Go.Proofs.YtjflcpkmoamijaaGreatDoor
namespace Go.Proofs.YtjflcpkmoamijaaGreatDoor
open Go.RowKit
set_option linter.unusedVariables false
set_option linter.unusedSimpArgs false
set_option linter.unnecessarySimpa false

section
variable {P : Program} {o : Oper} {a : Act} {w w' : World} {K : Act → World → Prop} {Q : Exit → Act → World → Prop}
theorem wp_upd {t : TypeId} {m x v : Operand} {vm vx vv : Value} (ho : o.op = .mapUpdate t m x v) (hN : o.dst = none) (hm : a.eval m = vm) (hx : a.eval x = vx) (hv : a.eval v = vv) (hr : (Instr.mapUpdate t vm vx vv).run P w = .ok () w') (h : K a w') : o.wp P a w K Q := by
  unfold Oper.wp execOp
  simp only [ho, hm, hx, hv, Sem.run_bind, Sem.run_pure, Result.andThen_ok, hr]
  show K (a.put o.dst undef) w'
  rw [hN]; exact h
theorem wp_dele {t k : TypeId} {m x : Operand} {vm vx : Value} (ho : o.op = .call { callee := .builtin .delete, args := #[m, x], argTypes := #[t, k] }) (hN : o.dst = none) (hm : a.eval m = vm) (hx : a.eval x = vx)
    (hr : (Builtin.delete_ #[t, k] o.type #[vm, vx]).run P w = .ok (.tuple #[]) w') (h : K a w') : o.wp P a w K Q := by
  have h1 : (execOp a.eval o).run P w = .ok (.value (.tuple #[])) w' := by
    unfold execOp
    simp [ho, resolve, invoke, builtin, hm, hx, hr]
  unfold Oper.wp
  rw [h1, Oper.upon_value]
  rw [hN]; exact h
end
theorem empt (s : ByteArray) : s.toList.isEmpty = decide (s.size = 0) := by
  rw [Lib.toList_data]
  have : s.size = s.data.toList.length := rfl
  rw [this]
  cases s.data.toList <;> simp
theorem MapIs.mono {w : World} {b n n' : Nat} {T : List Bl} (h : MapIs w b n T) (hn : n ≤ n') : MapIs w b n' T := by obtain ⟨D, h1, h2⟩ := h; exact ⟨D, h1.mono hn, h2⟩
def applyT (T : List Bl) (l : List Bl) : List Bl := l.foldl patch1 T
def CCell (w : World) (cb jb mb : Nat) (ver : Int) : Prop := w.heap[cb]? = some (.cells #[.pointer (some ⟨jb, 0, none⟩), .int .i64 ver, .map (some mb)] 84 (0, 0))
theorem CCell.c0 {w : World} {cb jb mb : Nat} {ver : Int} (h : CCell w cb jb mb ver) : w.cell? ⟨cb, 0, none⟩ = some (.pointer (some ⟨jb, 0, none⟩)) := cell_of_row w _ 0 _ _ _ h
theorem CCell.c1 {w : World} {cb jb mb : Nat} {ver : Int} (h : CCell w cb jb mb ver) : w.cell? ⟨cb, 1, none⟩ = some (.int .i64 ver) := cell_of_row w _ 1 _ _ _ h
theorem CCell.c2 {w : World} {cb jb mb : Nat} {ver : Int} (h : CCell w cb jb mb ver) : w.cell? ⟨cb, 2, none⟩ = some (.map (some mb)) := cell_of_row w _ 2 _ _ _ h
theorem CCell.fz {w : World} {cb jb mb : Nat} {ver : Int} (h : CCell w cb jb mb ver) (i : Nat) : w.frozen? ⟨cb, i, none⟩ = false := frozen_of_row w _ i _ _ h
theorem CCell.fr {w w' : World} {cb jb mb : Nat} {ver : Int} {S : Nat → Prop} (h : CCell w cb jb mb ver) (k : Fr w w' S) (hn : ¬ S cb) : CCell w' cb jb mb ver := k.heap h hn
theorem CCell.set {w : World} {cb jb mb : Nat} {ver : Int} (h : CCell w cb jb mb ver) (v : Int) : CCell (w.setCell ⟨cb, 1, none⟩ (.int .i64 v)) cb jb mb v := by
  have := heap_setCell_same w cb 1 _ _ (.int .i64 v) h
  simpa [CCell] using this
def ApPost (cb jb mb : Nat) (ver : Int) (n : Nat) (T : List Bl) (w : World) (e : Ending) (w' : World) : Prop :=
  e = .returned (.tuple #[]) ∧ CCell w' cb jb mb ver ∧ MapIs w' mb n T ∧ Fr w w' (fun k => k = cb ∨ k = mb)
theorem BlobsAt.nil_any {w : World} {v : Value} (h : ∃ ao c, v = .slice ao 0 c) (w' : World) : BlobsAt w' v [] := by
  obtain ⟨ao, c, rfl⟩ := h
  exact ⟨⟨ao, c, rfl, fun h => absurd rfl h⟩, fun b o n c' hv j u hj => by simp at hj⟩
theorem BlobsAt.fr0 {w w' : World} {v : Value} {l : List Bl} {S : Nat → Prop} (h : BlobsAt w v l) (k : Fr w w' S) (hn : l ≠ [] → ∀ b, v.ownBlock = some b → ¬ S b) : BlobsAt w' v l := by
  by_cases h0 : l = []
  · subst h0
    obtain ⟨ao, c, e, _⟩ := h.sl
    exact BlobsAt.nil_any (w := w) ⟨ao, c, e⟩ w'
  · exact h.fr k (hn h0)
set_option maxHeartbeats 1000000 in
set_option maxRecDepth 100000 in
theorem apply_any (cb jb mb n : Nat) (ver0 ver : Int) (v : Value) (T l : List Bl) (w : World) (hc : CCell w cb jb mb ver0) (hm : MapIs w mb n T) (hb : BlobsAt w v l) (hne : l ≠ [] → v.ownBlock ≠ some cb)
    (hf : ∀ x ∈ l, x.fits) (hn : n + l.length ≤ 1000000000) :
    Calls Tryz.prog 48 #[.pointer (some ⟨cb, 0, none⟩), .int .i64 ver, v] w (ApPost cb jb mb ver (n + l.length) (applyT T l) w) := by
  have c1 := hc.c1
  have f1 := hc.fz 1
  have hlt := lt_of_heap hc
  have hcm := hm.ne_cells hc
  obtain ⟨ao, c, rfl, hnil⟩ := hb.sl
  have hbm : ∀ b o, ao = some ⟨b, o, none⟩ → l ≠ [] → b ≠ mb := by
    rintro b o rfl hl
    obtain ⟨x, r, rfl⟩ := List.exists_cons_of_ne_nil hl
    have h1 := hb.nth 0 (by simp) 0 _ rfl
    intro e
    subst e
    obtain ⟨D, ⟨es, clock, he, _⟩, _⟩ := hm
    simp [World.cell?, he] at h1
  have HC := Lib.hid hc
  have HM := Lib.hid hm
  have HB := Lib.hid hb
  have HNE := Lib.hid hne
  have HF := Lib.hid hf
  have HNIL := Lib.hid hnil
  have HBM := Lib.hid hbm
  clear hc hm hb hne hf hnil hbm
  go_enter Tryz.func48, Tryz.ntmps48
  go_wp2_with fail
  have C2 := Lib.hid (HC.out.set ver)
  have F2 : Hid (Fr w (w.setCell ⟨cb, 1, none⟩ (.int .i64 ver)) (fun k => k = cb ∨ k = mb)) := (Fr.refl _ _).setCell _ _ (fun _ => .inl rfl)
  have M2 : Hid (MapIs (w.setCell ⟨cb, 1, none⟩ (.int .i64 ver)) mb n T) := HM.out.fr (S := fun k => k = cb) ((Fr.refl _ _).setCell _ _ (fun _ => rfl)) (fun e => hcm e.symm)
  have B2 : Hid (BlobsAt (w.setCell ⟨cb, 1, none⟩ (.int .i64 ver)) (.slice ao l.length c) l) := HB.out.fr0 (S := fun k => k = cb) ((Fr.refl _ _).setCell _ _ (fun _ => rfl)) (fun h0 b hb e => HNE.out h0 (e ▸ hb))
  generalize w.setCell ⟨cb, 1, none⟩ (.int .i64 ver) = w2 at *
  go_loopw [14] (fun v wr => ∃ i : Nat, v = .int .i64 i ∧ i ≤ l.length ∧ Hid (CCell wr cb jb mb ver) ∧ Hid (MapIs wr mb (n + i) (applyT T (l.take i))) ∧ Hid (BlobsAt wr (.slice ao l.length c) l) ∧ Hid (Fr w wr (fun k => k = cb ∨ k = mb))) (fun v _ => l.length - (intOf v).toNat)
  case atStart => exact ⟨0, rfl, by omega, C2.out, M2.out, B2.out, F2.out⟩
  case round =>
    obtain ⟨i, rfl, hi, hC, hM, hB, hF⟩ := hrel
    by_cases hic : i < l.length
    · have hic' : (i : Int) < (l.length : Int) := by omega
      obtain ⟨b, o, rfl⟩ := HNIL.out (by intro h; subst h; simp at hic)
      have hbm := HBM.out b o rfl (by intro h; subst h; simp at hic)
      have hx := hB.out.nth i hic
      have hx4 := range4 hx
      have hfx := HF.out (l[i]) (List.getElem_mem hic)
      have hnext : Hid (patch1 (applyT T (l.take i)) (l[i]) = applyT T (l.take (i + 1))) := by
        show _ = _; unfold applyT; rw [List.take_succ_eq_append_getElem hic, List.foldl_append]; rfl
      generalize l[i] = x at *
      obtain ⟨⟨z, x, y⟩, s⟩ := x
      have HFX := Lib.hid hfx
      obtain ⟨k0, k1, k2, k3⟩ := hx4
      simp only at k0 k1 k2 k3
      have hS0 : (wr.alloc (.cells #[.int .i64 z, .int .i64 x, .int .i64 y, .string s] 93)).rangeAt wr.heap.size 0 (Bl.mk ⟨z, x, y⟩ s).cells := range_new wr ⟨⟨z, x, y⟩, s⟩
      have HS0 := Lib.hid hS0
      have hl1 : Hid (wr.heap.size < (wr.alloc (.cells #[.int .i64 z, .int .i64 x, .int .i64 y, .string s] 93)).heap.size) := by show _ < _; simp
      have C3 : Hid (CCell (wr.alloc (.cells #[.int .i64 z, .int .i64 x, .int .i64 y, .string s] 93)) cb jb mb ver) := hC.out.fr ((Fr.refl _ Nowhere).alloc _) (fun h => h)
      have M3 : Hid (MapIs (wr.alloc (.cells #[.int .i64 z, .int .i64 x, .int .i64 y, .string s] 93)) mb (n + i) (applyT T (l.take i))) := hM.out.fr ((Fr.refl _ Nowhere).alloc _) (fun h => h)
      have B3 : Hid (BlobsAt (wr.alloc (.cells #[.int .i64 z, .int .i64 x, .int .i64 y, .string s] 93)) (.slice (some ⟨b, o, none⟩) l.length c) l) := hB.out.fr ((Fr.refl _ Nowhere).alloc _) (fun _ _ h => h)
      have F3 : Hid (Fr w (wr.alloc (.cells #[.int .i64 z, .int .i64 x, .int .i64 y, .string s] 93)) (fun k => k = cb ∨ k = mb)) := hF.out.alloc _
      clear hx hfx hS0
      have hmlt := Lib.hid hM.out.lt
      have hsS : ∀ w' : World, w' = wr.alloc (.cells #[.int .i64 z, .int .i64 x, .int .i64 y, .string s] 93) → w'.drew.cell? ⟨cb, 2, none⟩ = some (.map (some mb)) ∧ w'.drew.rangeAt wr.heap.size 0 (Bl.mk ⟨z, x, y⟩ s).cells := by
        rintro w' rfl; exact ⟨C3.out.c2, HS0.out⟩
      have hS := hsS _ rfl
      have HSS := Lib.hid hS
      clear hsS hS
      rcases hse : s.toList.isEmpty with _ | _
      · have hsz : ¬ s.size = 0 := by intro h; rw [empt, h] at hse; simp at hse
        have hn2 : Hid (patch1 (applyT T (l.take i)) ⟨⟨z, x, y⟩, s⟩ = insT (applyT T (l.take i)) ⟨⟨z, x, y⟩, s⟩) := by show _ = _; unfold patch1; rw [if_neg hsz]
        go_wp2_with fail
        generalize hw1 : wr.alloc (.cells #[.int .i64 z, .int .i64 x, .int .i64 y, .string s] 93) = w1 at *
        clear hw1
        refine region_seq (fun w' => w'.cell? ⟨cb, 2, none⟩ = some (.map (some mb)) ∧ w'.rangeAt wr.heap.size 0 (Bl.mk ⟨z, x, y⟩ s).cells) [8]
          [(.p, 0), (.p, 1), (.p, 2), (.q, 3), (.p, 4), (.q, 5), (.p, 6), (.q, 7), (.d, 8)] (by kernel_rfl) (by kernel_rfl) (by kernel_rfl) (by kernel_rfl) (fun d v c a w h => by cases d <;> exact h) ?_
        have hS := HSS.out
        (refine seq_p (N := some 27) rfl rfl (by rfl) ?_ (fun w' => ?_) ?_
         rotate_left
         · go_simp
           with_reducible rfl
         simp only [Act.put, List.setIfInBounds_toArray, List.set_cons_zero, List.set_cons_succ])
        (refine seq_p (N := some 28) rfl rfl (by rfl) ?_ (fun w' => ?_) ?_
         rotate_left
         · go_simp
           with_reducible rfl
         simp only [Act.put, List.setIfInBounds_toArray, List.set_cons_zero, List.set_cons_succ])
        (refine seq_p (N := some 29) rfl rfl (by rfl) ?_ (fun w' => ?_) ?_
         rotate_left
         · go_simp
           with_reducible rfl
         simp only [Act.put, List.setIfInBounds_toArray, List.set_cons_zero, List.set_cons_succ])
        (refine seq_q (N := some 30) rfl rfl (by rfl) ?_ ?_ hS ?_
         rotate_left
         · rintro w' ⟨s1, s2⟩
           go_simp
           with_reducible rfl
         simp only [Act.put, List.setIfInBounds_toArray, List.set_cons_zero, List.set_cons_succ])
        (refine seq_p (N := some 31) rfl rfl (by rfl) ?_ (fun w' => ?_) ?_
         rotate_left
         · go_simp
           with_reducible rfl
         simp only [Act.put, List.setIfInBounds_toArray, List.set_cons_zero, List.set_cons_succ])
        (refine seq_q (N := some 32) rfl rfl (by rfl) (Tl.mk z x y).v ?_ hS ?_
         · rintro w' ⟨s1, s2⟩
           exact run_ld rfl rfl (load_tile (range_tile s2))
         simp only [Act.put, List.setIfInBounds_toArray, List.set_cons_zero, List.set_cons_succ])
        (refine seq_p (N := some 33) rfl rfl (by rfl) ?_ (fun w' => ?_) ?_
         rotate_left
         · go_simp
           with_reducible rfl
         simp only [Act.put, List.setIfInBounds_toArray, List.set_cons_zero, List.set_cons_succ])
        (refine seq_q (N := some 34) rfl rfl (by rfl) (.string s) ?_ hS ?_
         · rintro w' ⟨s1, s2⟩
           have s3 := (range4 s2).2.2.2
           simp only [Nat.zero_add] at s3
           go_simp
         simp only [Act.put, List.setIfInBounds_toArray, List.set_cons_zero, List.set_cons_succ])
        obtain ⟨w4, hr4, hm4, hg4⟩ := (M3.out.drewN 1).store ⟨⟨z, x, y⟩, s⟩ ⟨HFX.out.1, HFX.out.2.1, HFX.out.2.2.1⟩ (by have := HFX.out.2.2.2; unfold maxLen; omega) (by unfold maxLen; omega)
        refine seq_d rfl (by rfl) (wp_upd rfl rfl rfl rfl rfl hr4 ?_)
        refine seq_nil ?_
        have hF4 : Fr w1 w4 (fun k => k = mb) := ((Fr.refl w1 _).drewN 1).tr (Fr.grown hg4 (fun k hk _ => by injection hk with hk; exact hk.symm))
        have C5 := Lib.hid (C3.out.fr hF4 hcm)
        have M5 : Hid (MapIs w4 mb (n + (i + 1)) (applyT T (l.take (i + 1)))) := by show MapIs _ _ _ _; rw [← hnext.out, hn2.out]; exact hm4
        have B5 := Lib.hid (B3.out.fr hF4 (fun b' hb' e => by simp only [Value.ownBlock, Option.some.injEq] at hb'; exact hbm (hb'.trans e)))
        have F5 := Lib.hid (F3.out.tr (hF4.mono (fun _ _ h => .inr h)))
        clear hr4 hm4 hg4 hF4 hS
        go_wp2_with fail
        go_roundw
        case rel => exact ⟨i + 1, by go_num, by omega, C5.out, M5.out, B5.out, F5.out⟩
        case measure => simp [intOf]; omega
      · have hsz : s.size = 0 := by rw [empt] at hse; simpa using hse
        have hn2 : Hid (patch1 (applyT T (l.take i)) ⟨⟨z, x, y⟩, s⟩ = delT (applyT T (l.take i)) ⟨z, x, y⟩) := by show _ = _; unfold patch1; rw [if_pos hsz]
        go_wp2_with fail
        generalize hw1 : wr.alloc (.cells #[.int .i64 z, .int .i64 x, .int .i64 y, .string s] 93) = w1 at *
        clear hw1
        refine region_seq (fun w' => w'.cell? ⟨cb, 2, none⟩ = some (.map (some mb)) ∧ w'.rangeAt wr.heap.size 0 (Bl.mk ⟨z, x, y⟩ s).cells) [6]
          [(.p, 0), (.p, 1), (.p, 2), (.q, 3), (.p, 4), (.q, 5), (.d, 6)] (by kernel_rfl) (by kernel_rfl) (by kernel_rfl) (by kernel_rfl) (fun d v c a w h => by cases d <;> exact h) ?_
        have hS := HSS.out
        (refine seq_p (N := some 21) rfl rfl (by rfl) ?_ (fun w' => ?_) ?_
         rotate_left
         · go_simp
           with_reducible rfl
         simp only [Act.put, List.setIfInBounds_toArray, List.set_cons_zero, List.set_cons_succ])
        (refine seq_p (N := some 22) rfl rfl (by rfl) ?_ (fun w' => ?_) ?_
         rotate_left
         · go_simp
           with_reducible rfl
         simp only [Act.put, List.setIfInBounds_toArray, List.set_cons_zero, List.set_cons_succ])
        (refine seq_p (N := some 23) rfl rfl (by rfl) ?_ (fun w' => ?_) ?_
         rotate_left
         · go_simp
           with_reducible rfl
         simp only [Act.put, List.setIfInBounds_toArray, List.set_cons_zero, List.set_cons_succ])
        (refine seq_q (N := some 24) rfl rfl (by rfl) ?_ ?_ hS ?_
         rotate_left
         · rintro w' ⟨s1, s2⟩
           go_simp
           with_reducible rfl
         simp only [Act.put, List.setIfInBounds_toArray, List.set_cons_zero, List.set_cons_succ])
        (refine seq_p (N := some 25) rfl rfl (by rfl) ?_ (fun w' => ?_) ?_
         rotate_left
         · go_simp
           with_reducible rfl
         simp only [Act.put, List.setIfInBounds_toArray, List.set_cons_zero, List.set_cons_succ])
        (refine seq_q (N := some 26) rfl rfl (by rfl) (Tl.mk z x y).v ?_ hS ?_
         · rintro w' ⟨s1, s2⟩
           exact run_ld rfl rfl (load_tile (range_tile s2))
         simp only [Act.put, List.setIfInBounds_toArray, List.set_cons_zero, List.set_cons_succ])
        obtain ⟨w4, hr4, hm4, hg4⟩ := (M3.out.drewN 1).drop ⟨z, x, y⟩ ⟨HFX.out.1, HFX.out.2.1, HFX.out.2.2.1⟩ 0
        refine seq_d rfl (by rfl) (wp_dele rfl rfl rfl rfl hr4 ?_)
        refine seq_nil ?_
        have hF4 : Fr w1 w4 (fun k => k = mb) := ((Fr.refl w1 _).drewN 1).tr (Fr.grown hg4 (fun k hk _ => by injection hk with hk; exact hk.symm))
        have C5 := Lib.hid (C3.out.fr hF4 hcm)
        have M5 : Hid (MapIs w4 mb (n + (i + 1)) (applyT T (l.take (i + 1)))) := by show MapIs _ _ _ _; rw [← hnext.out, hn2.out]; exact hm4.mono (by omega)
        have B5 := Lib.hid (B3.out.fr hF4 (fun b' hb' e => by simp only [Value.ownBlock, Option.some.injEq] at hb'; exact hbm (hb'.trans e)))
        have F5 := Lib.hid (F3.out.tr (hF4.mono (fun _ _ h => .inr h)))
        clear hr4 hm4 hg4 hF4 hS
        go_wp2_with fail
        go_roundw
        case rel => exact ⟨i + 1, by go_num, by omega, C5.out, M5.out, B5.out, F5.out⟩
        case measure => simp [intOf]; omega
    · have hic' : ¬ (i : Int) < (l.length : Int) := by omega
      obtain rfl : i = l.length := by omega
      go_wp2_with fail
      go_end0
      refine ⟨rfl, hC.out, ?_, hF.out⟩
      have := hM.out
      rw [List.take_length] at this
      exact this
end Go.Proofs.YtjflcpkmoamijaaGreatDoor
namespace Go.Proofs.YtjflcpkmoamijaaGreatDoor
open Go.RowKit
set_option linter.unusedVariables false
set_option linter.unusedSimpArgs false
set_option linter.unnecessarySimpa false

/-! ### Lists of tiles in order: plain Lean -/
theorem less_iff (a b : Tl) : a.less b = true ↔ a.z < b.z ∨ (a.z = b.z ∧ (a.y < b.y ∨ (a.y = b.y ∧ a.x < b.x))) := by
  obtain ⟨z, x, y⟩ := a
  obtain ⟨z', x', y'⟩ := b
  unfold Tl.less
  simp only [Tl.mk.injEq, ne_eq]
  by_cases h1 : z = z'
  · by_cases h2 : y = y'
    · by_cases h3 : x = x'
      · simp [h1, h2, h3]
      · simp [h1, h2, h3]
    · simp [h1, h2]
  · simp [h1]
theorem less_irr (a : Tl) : a.less a = false := by simp [Tl.less]
theorem less_trans {a b c : Tl} (h : a.less b = true) (k : b.less c = true) : a.less c = true := by
  rw [less_iff] at *; omega
theorem less_total {a b : Tl} (h : a ≠ b) : a.less b = true ∨ b.less a = true := by
  obtain ⟨z, x, y⟩ := a
  obtain ⟨z', x', y'⟩ := b
  simp only [ne_eq, Tl.mk.injEq] at h
  simp only [less_iff]
  omega
theorem less_asym {a b : Tl} (h : a.less b = true) : b.less a = false := by
  cases hb : b.less a
  · rfl
  · rw [less_iff] at *; omega
theorem less_ne {a b : Tl} (h : a.less b = true) : a ≠ b := by rintro rfl; rw [less_irr] at h; cases h
def Sorted (T : List Bl) : Prop := T.Pairwise (fun a b => a.t.less b.t = true)
theorem Sorted.nodup {T : List Bl} (h : Sorted T) : (T.map (·.t)).Nodup := by
  unfold List.Nodup
  rw [List.pairwise_map]
  exact h.imp (fun hl => less_ne hl)
theorem look_mem {T : List Bl} {t : Tl} {s : ByteArray} (h : look T t = some s) : (⟨t, s⟩ : Bl) ∈ T := by
  unfold look at h
  rw [Option.map_eq_some_iff] at h
  obtain ⟨b, hb, rfl⟩ := h
  have h1 := List.mem_of_find?_eq_some hb
  have h2 := List.find?_some hb
  simp at h2
  subst h2
  exact h1
theorem mem_look {T : List Bl} (hn : (T.map (·.t)).Nodup) {b : Bl} (h : b ∈ T) : look T b.t = some b.s := by
  induction T with
  | nil => cases h
  | cons y r ih =>
    rw [List.map_cons, List.nodup_cons] at hn
    rw [look_cons]
    rcases List.mem_cons.1 h with rfl | h
    · rw [if_pos rfl]
    · have : y.t ≠ b.t := fun e => hn.1 (e ▸ List.mem_map_of_mem h)
      rw [if_neg this]
      exact ih hn.2 h
theorem ins_mem {T : List Bl} {x b : Bl} (h : b ∈ insT T x) : b = x ∨ b ∈ T := by
  induction T with
  | nil => left; simpa [insT] using h
  | cons y r ih =>
    rw [insT] at h
    split at h
    · rcases List.mem_cons.1 h with h | h
      · exact .inl h
      · exact .inr (List.mem_cons_of_mem _ h)
    · split at h
      · rcases List.mem_cons.1 h with h | h
        · exact .inl h
        · exact .inr h
      · rcases List.mem_cons.1 h with h | h
        · exact .inr (h ▸ List.mem_cons_self)
        · rcases ih h with h | h
          · exact .inl h
          · exact .inr (List.mem_cons_of_mem _ h)
theorem Sorted.ins {T : List Bl} (h : Sorted T) (x : Bl) : Sorted (insT T x) := by
  induction T with
  | nil => simp [insT, Sorted]
  | cons y r ih =>
    obtain ⟨h1, h2⟩ := List.pairwise_cons.1 h
    rw [insT]
    split
    · rename_i he
      exact List.pairwise_cons.2 ⟨fun b hb => by rw [he]; exact h1 b hb, h2⟩
    · rename_i he
      split
      · rename_i hl
        refine List.pairwise_cons.2 ⟨fun b hb => ?_, h⟩
        rcases List.mem_cons.1 hb with rfl | hb
        · exact hl
        · exact less_trans hl (h1 b hb)
      · rename_i hl
        refine List.pairwise_cons.2 ⟨fun b hb => ?_, ih h2⟩
        rcases ins_mem hb with rfl | hb
        · rcases less_total he with h | h
          · exact absurd h hl
          · exact h
        · exact h1 b hb
theorem Sorted.del {T : List Bl} (h : Sorted T) (t : Tl) : Sorted (delT T t) := h.filter _
theorem Sorted.patch {T : List Bl} (h : Sorted T) (x : Bl) : Sorted (patch1 T x) := by unfold patch1; split; exact h.del _; exact h.ins _
theorem Sorted.apply {T : List Bl} (h : Sorted T) (l : List Bl) : Sorted (applyT T l) := by
  unfold applyT
  induction l generalizing T with
  | nil => exact h
  | cons x l ih => exact ih (h.patch x)
def Fits (T : List Bl) : Prop := ∀ b ∈ T, b.fits
theorem Fits.patch {T : List Bl} (h : Fits T) {x : Bl} (hx : x.fits) : Fits (patch1 T x) := by
  unfold patch1
  split
  · intro b hb; exact h b (List.mem_filter.1 hb).1
  · intro b hb
    rcases ins_mem hb with rfl | hb
    · exact hx
    · exact h b hb
theorem Fits.apply {T : List Bl} (h : Fits T) {l : List Bl} (hl : Fits l) : Fits (applyT T l) := by
  unfold applyT
  induction l generalizing T with
  | nil => exact h
  | cons x l ih => exact ih (h.patch (hl x List.mem_cons_self)) (fun b hb => hl b (List.mem_cons_of_mem _ hb))
/-- Two lists in order that hold the same are one. -/
theorem Sorted.uniq : ∀ {l T : List Bl}, Sorted l → Sorted T → (∀ b, b ∈ l ↔ b ∈ T) → l = T
  | [], [], _, _, _ => rfl
  | [], y :: r, _, _, h => absurd ((h y).2 List.mem_cons_self) (by simp)
  | x :: l, [], _, _, h => absurd ((h x).1 List.mem_cons_self) (by simp)
  | x :: l, y :: r, hl, hr, h => by
    obtain ⟨a1, a2⟩ := List.pairwise_cons.1 hl
    obtain ⟨b1, b2⟩ := List.pairwise_cons.1 hr
    have hxy : x = y := by
      rcases List.mem_cons.1 ((h x).1 List.mem_cons_self) with e | hx
      · exact e
      · rcases List.mem_cons.1 ((h y).2 List.mem_cons_self) with e | hy
        · exact e.symm
        · have := less_asym (b1 x hx)
          rw [a1 y hy] at this; cases this
    subst hxy
    congr 1
    refine Sorted.uniq a2 b2 (fun b => ⟨fun hb => ?_, fun hb => ?_⟩)
    · rcases List.mem_cons.1 ((h b).1 (List.mem_cons_of_mem _ hb)) with rfl | hb'
      · have := a1 b hb; rw [less_irr] at this; cases this
      · exact hb'
    · rcases List.mem_cons.1 ((h b).2 (List.mem_cons_of_mem _ hb)) with rfl | hb'
      · have := b1 b hb; rw [less_irr] at this; cases this
      · exact hb'
end Go.Proofs.YtjflcpkmoamijaaGreatDoor
namespace Go.Proofs.YtjflcpkmoamijaaGreatDoor
open Go.RowKit
open Go.Maps (Keyed)
set_option linter.unusedVariables false
set_option linter.unusedSimpArgs false
set_option linter.unnecessarySimpa false

theorem wf_inv {n : Int} (h : (Lit.int .i64 n).wf = true) : InInt n := by
  have h1 : IntKind.i64.min = -9223372036854775808 := by decide
  have h2 : IntKind.i64.max = 9223372036854775807 := by decide
  simp [Lit.wf, h1, h2] at h
  unfold InInt
  omega
set_option maxRecDepth 100000 in
theorem lits_int {d : Nat} {v : Value} {ls : List Lit} (h : Tryz.prog.keyLits (d + 1) 3 [v] = some ls) : ∃ n, v = .int .i64 n ∧ InInt n := by
  unfold Program.keyLits at h
  rw [Tryz.underlying3] at h
  cases v <;> simp at h
  obtain ⟨⟨rfl, hw⟩, _⟩ := h
  exact ⟨_, rfl, wf_inv hw⟩
set_option maxRecDepth 100000 in
/-- What reads as a tile's key is a tile. -/
theorem key_shape (v : Value) (kl : Lit) (h : keyOf Tryz.prog 91 v = some kl) : ∃ t : Tl, v = t.v ∧ t.fits ∧ kl = t.key := by
  have hc : Tryz.prog.cellsOf 91 = 3 := by kernel_rfl
  have hc3 : Tryz.prog.cellsOf 3 = 1 := by kernel_rfl
  have hsz : ∃ m, Tryz.prog.types.size = m + 1 := ⟨Tryz.prog.types.size - 1, by kernel_rfl⟩
  obtain ⟨m, hm⟩ := hsz
  have h0 := h
  unfold keyOf at h
  rw [Tryz.underlying91] at h
  simp only [] at h
  split at h
  · rename_i hf
    rw [Bool.and_eq_true] at hf
    have hfo := hf.2
    unfold Value.formed at hfo
    rw [Tryz.underlying91] at hfo
    rw [hm] at h
    rw [Option.map_eq_some_iff] at h
    obtain ⟨ls, h, _⟩ := h
    unfold Program.keyLits at h
    rw [Tryz.underlying91] at h
    simp only [] at h
    split at h
    · rename_i hl
      have hl3 := hl.1
      rw [hc] at hl3
      generalize hcs : v.cells.toList = cs at *
      obtain ⟨a, b, c, rfl⟩ : ∃ a b c, cs = [a, b, c] := by
        match cs, hl3 with
        | [a, b, c], _ => exact ⟨a, b, c, rfl⟩
      simp only [List.mapM_cons, hc3, List.drop_zero, List.drop_succ_cons, List.take_succ_cons, List.take_zero, Option.map_eq_some_iff] at h
      obtain ⟨x, hx, _⟩ := h
      simp only [Option.bind_eq_bind, Option.bind_eq_some_iff] at hx
      obtain ⟨la, ha, lr, ⟨lb, hb, lr2, ⟨lc, hc', _⟩, _⟩, _⟩ := hx
      obtain ⟨z, rfl, fz⟩ := lits_int ha
      obtain ⟨x, rfl, fx⟩ := lits_int hb
      obtain ⟨y, rfl, fy⟩ := lits_int hc'
      have hv : v = Tl.v ⟨z, x, y⟩ := by
        cases v <;> simp [Value.cells] at hcs
        · simp [Tl.v]; exact Array.toList_inj.1 hcs
      have hfit : Tl.fits ⟨z, x, y⟩ := ⟨fz, fx, fy⟩
      refine ⟨⟨z, x, y⟩, hv, hfit, ?_⟩
      rw [hv, key_of _ hfit] at h0
      injection h0 with h0
      exact h0.symm
    · cases h
  · cases h
/-- What has been collected so far. -/
structure Coll (T : List Bl) (left : Lit → Bool) (acc : List Bl) : Prop where
  fit : ∀ b ∈ acc, b.t.fits
  has : ∀ b ∈ acc, look T b.t = some b.s
  gone : ∀ b ∈ acc, left b.t.key = false
  nod : (acc.map (·.t)).Nodup
  rest : ∀ t : Tl, t.fits → look T t ≠ none → left t.key = true ∨ ∃ b ∈ acc, b.t = t
theorem Coll.start {D : DataW Unit} {T : List Bl} (h : Rep D T) : Coll T (Maps.has D) [] := by
  refine ⟨by simp, by simp, by simp, by simp, fun t ht hl => .inl ?_⟩
  obtain ⟨s, hs⟩ := Option.ne_none_iff_exists'.1 hl
  exact Maps.has_true_of_atKey (y := .lit (.string s.data.toList)) (fun z => by rw [h.2 t ht z, hs])
theorem Coll.step {D : DataW Unit} {T : List Bl} {left : Lit → Bool} {acc : List Bl} (h : Coll T left acc) (hr : Rep D T) {t : Tl} {c : ByteArray} (ht : t.fits) (hl : left t.key = true) (hat : ∀ z, D.atKey t.key z = .lit (.string c.data.toList)) :
    Coll T (fun z => left z && !z.sameKey t.key) (acc ++ [⟨t, c⟩]) := by
  have hlk : look T t = some c := by
    have h1 := hr.2 t ht (.lit (.bool true))
    have h2 := hr.2 t ht (.lit (.bool false))
    rw [hat] at h1 h2
    cases hk : look T t with
    | none => rw [hk] at h1 h2; simp at h1
    | some s =>
      rw [hk] at h1
      simp at h1
      have : c = s := by
        obtain ⟨⟨c⟩⟩ := c
        obtain ⟨⟨s⟩⟩ := s
        simp at h1
        rw [h1]
      rw [this]
  refine ⟨?_, ?_, ?_, ?_, ?_⟩
  · intro b hb
    rcases List.mem_append.1 hb with hb | hb
    · exact h.fit b hb
    · simp at hb; rw [hb]; exact ht
  · intro b hb
    rcases List.mem_append.1 hb with hb | hb
    · exact h.has b hb
    · simp at hb; rw [hb]; exact hlk
  · intro b hb
    rcases List.mem_append.1 hb with hb | hb
    · simp [h.gone b hb]
    · simp at hb; rw [hb]; simp [Go.WideAt.sameKey_self (key_lit t)]
  · rw [List.map_append, List.nodup_append]
    refine ⟨h.nod, by simp, ?_⟩
    intro a ha b hb
    simp at hb
    subst hb
    rintro rfl
    obtain ⟨x, hx, rfl⟩ := List.mem_map.1 ha
    rw [h.gone x hx] at hl
    cases hl
  · intro t' ht' hl'
    rcases h.rest t' ht' hl' with h1 | ⟨b, hb, he⟩
    · by_cases he : t' = t
      · exact .inr ⟨⟨t, c⟩, by simp, he.symm⟩
      · left
        have : t'.key.sameKey t.key = false := Maps.sameKey_ne (fun e => he (key_inj ht' ht e))
        simp [h1, this]
    · exact .inr ⟨b, List.mem_append_left _ hb, he⟩
theorem Coll.done {T : List Bl} {left : Lit → Bool} {acc : List Bl} (h : Coll T left acc) (hl : ∀ k, left k = false) (hT : Sorted T) (hF : Fits T) : ∀ b, b ∈ acc ↔ b ∈ T := by
  intro b
  constructor
  · intro hb
    exact look_mem (h.has b hb)
  · intro hb
    have hlk := mem_look hT.nodup hb
    have hfb := hF b hb
    rcases h.rest b.t ⟨hfb.1, hfb.2.1, hfb.2.2.1⟩ (by rw [hlk]; simp) with h1 | ⟨x, hx, he⟩
    · rw [hl] at h1; cases h1
    · have h2 := h.has x hx
      rw [he, hlk] at h2
      injection h2 with h2
      have : x = b := by cases x; cases b; simp at he h2; rw [he, h2]
      rw [← this]; exact hx
end Go.Proofs.YtjflcpkmoamijaaGreatDoor
namespace Go.Proofs.YtjflcpkmoamijaaGreatDoor
open Go.RowKit
open Go.Maps (Keyed)
set_option linter.unusedVariables false
set_option linter.unusedSimpArgs false
set_option linter.unnecessarySimpa false

def TilesPost (T : List Bl) (w : World) (e : Ending) (w' : World) : Prop :=
  ∃ v, e = .returned v ∧ w'.ownsRow w.heap.size 93 4 v T.length (T.flatMap Bl.cells) ∧ Below w.heap.size w w'
/-- What the sort leaves of an owned row of tiles. -/
def SortOk : Prop := ∀ (v : Value) (acc : List Bl) (B : Nat) (w : World), B ≤ w.heap.size → acc.length ≤ 1000000000 → w.ownsRow B 93 4 v acc.length (acc.flatMap Bl.cells) →
  Calls Tryz.prog 59 #[v, .func (.func 60) #[] #[]] w fun e w' => e = .returned (.tuple #[]) ∧ ∃ l : List Bl, l.Perm acc ∧ l.Pairwise (fun a b => b.t.less a.t = false) ∧ w'.ownsRow B 93 4 v acc.length (l.flatMap Bl.cells) ∧ Below B w w'
set_option maxHeartbeats 1000000 in
set_option maxRecDepth 100000 in
theorem Tiles_of (hsort : SortOk) (cb jb mb n : Nat) (ver : Int) (T : List Bl) (w : World) (hc : CCell w cb jb mb ver) (hm : MapIs w mb n T) (hT : Sorted T) (hF : Fits T) (hn : n ≤ 1000000000) :
    Calls Tryz.prog 28 #[.pointer (some ⟨cb, 0, none⟩)] w (TilesPost T w) := by
  have c2 := hc.c2
  obtain ⟨D, hown, hrep⟩ := hm
  have HO := Lib.hid hown
  have HR := Lib.hid hrep
  have HT := Lib.hid hT
  have HF := Lib.hid hF
  have HS := Lib.hid hsort
  clear hc hown hrep hT hF hsort
  go_enter Tryz.func28, Tryz.ntmps28
  go_wp2_with (
    at_range
    refine wpList_range_own _ rfl _ 82 rfl 91 9 klaw Tryz.underlying82 _ mb n D (by rfl) HO.out ?_
    intro w0 hrg0 hg0 hs0
    have HRG := Lib.hid hrg0
    have HG := Lib.hid hg0
    have HS0 := Lib.hid hs0
    clear hrg0 hg0 hs0)
  have HB0 : Hid (Below w.heap.size w w0) := ⟨HG.out.os, HG.out.tape, HG.out.output, HG.out.size, fun k hk => HG.out.block k hk (by simp)⟩
  have hml := HO.out.lt
  go_frame
  go_loopw [3] (fun v wr => ∃ (left : Lit → Bool) (cnt : Nat) (acc : List Bl), Hid (wr.ranges Tryz.prog 91 (plainElem Tryz.prog 9) mb w.heap.size n D left cnt) ∧ acc.length + cnt ≤ 1000000000 ∧
    Hid (wr.ownsRow w.heap.size 93 4 v acc.length (acc.flatMap Bl.cells)) ∧ Hid (Below w.heap.size w wr) ∧ Hid (Coll T left acc)) (fun _ wr => wr.rangeLeft mb w.heap.size)
  case atStart =>
    have hsz : Maps.size D ≤ n := by
      obtain ⟨es, clock, hb, Fi, hsz, rfl⟩ := HO.out
      show List.length _ ≤ n
      rw [length_sorted]; simpa using hsz
    exact ⟨_, _, [], HRG.out, by simp; omega, World.ownsRow_nil _ _ _ _, HB0.out, Coll.start HR.out⟩
  case round =>
    obtain ⟨left, cnt, acc, hrg, hcs, hown, hB, hC⟩ := hrel
    go_wp2_with (first
      | (at_next; refine wpList_next_ranges _ rfl _ rfl 91 klaw (plainElem Tryz.prog 9) Tl.v Value.string (fun key kl h => by obtain ⟨t, ht, _⟩ := key_shape key kl h; exact ⟨t, ht⟩) (fun v y hv => by obtain ⟨c, hc, _⟩ := plainElem_string_inv Tryz.underlying9 hv; exact ⟨c, hc⟩) mb w.heap.size n D left cnt (by rfl) hrg.out ?_ ?_))
    · intro hc0 hl0
      have hmem := hC.out.done hl0 HT.out HF.out
      have hw := Lib.hid (HS.out u3 acc w.heap.size wr hB.out.size (by omega) hown.out)
      have hperm : T.Perm acc := by
        refine (List.perm_ext_iff_of_nodup ?_ ?_).2 (fun b => (hmem b).symm)
        · exact List.Pairwise.of_map (·.t) (fun a b h e => h (by rw [e])) HT.out.nodup
        · exact List.Pairwise.of_map (·.t) (fun a b h e => h (by rw [e])) hC.out.nod
      have HM := Lib.hid hmem
      have HP := Lib.hid hperm
      clear hmem hperm hl0
      go_wp2_with (go_at_call 59; refine hw.out.mono ?_; rintro e w5 ⟨rfl, l, hl1, hl2, hl3, hl4⟩)
      go_ret
      have hlT : l = T := by
        have hnd : (l.map (·.t)).Nodup := ((hl1.trans HP.out.symm).map _).nodup_iff.2 HT.out.nodup
        have hso : Sorted l := by
          have h3 : l.Pairwise (fun a b => a.t ≠ b.t) := by unfold List.Nodup at hnd; rwa [List.pairwise_map] at hnd
          refine (hl2.and h3).imp ?_
          rintro a b ⟨h1, h2⟩
          rcases less_total h2 with h | h
          · exact h
          · rw [h1] at h; cases h
        exact Sorted.uniq hso HT.out (fun b => (hl1.mem_iff).trans (HM.out b))
      subst hlT
      refine ⟨u3, rfl, ?_, hB.out.trans hl4⟩
      rw [← hl1.length_eq] at hl3
      exact hl3
    · intro x c kl y1 y2 w1 cnt1 hkey hlx hR hat hrg1 hlt hg1 hs1 hen
      obtain ⟨hfx, rfl⟩ : x.fits ∧ kl = x.key := by
        obtain ⟨t, ht, hf, hk⟩ := key_shape _ _ hkey
        have : x = t := by cases x; cases t; simp [Tl.v] at ht; simp [ht]
        subst this; exact ⟨hf, hk⟩
      have hy1 : y1 = .lit (.string c.data.toList) := by
        obtain ⟨s, hs, hz, _⟩ := plainElem_string_inv Tryz.underlying9 hR
        injection hs with hs
        subst hs
        exact congrArg Prod.fst hz
      have C1 := Lib.hid (hC.out.step HR.out hfx hlx (fun z => by rw [hat, hy1]))
      have R1 := Lib.hid hrg1
      have hown1 : w1.ownsRow w.heap.size 93 4 u3 acc.length (acc.flatMap Bl.cells) := by
        refine hown.out.kept hg1 ?_
        cases hk : u3.ownBlock with
        | none => exact .inl rfl
        | some k =>
          right
          intro e
          injection e with e
          obtain ⟨cc, hcc⟩ := own_elem hown.out hk
          obtain ⟨es, clock, since, seen, c0, hb, F, hs, hD, hr, rest⟩ := hrg.out
          rw [e, hr] at hcc
          cases hcc
      have hB1 : Below w.heap.size w w1 := hB.out.grown hg1 hB.out.size (fun j hj => by injection hj with hj; omega)
      have O1 := Lib.hid hown1
      have B1 := Lib.hid hB1
      have HRG2 := Lib.hid hrg
      have HLT := Lib.hid hlt
      clear hrg hown hB hC hkey hlx hR hat hrg1 hg1 hs1 hown1 hB1 hy1 hlt
      obtain ⟨z, xx, y⟩ := x
      simp only [Tl.v] at hen ⊢
      have O2 : Hid ((w1.alloc (.cells #[.int .i64 z, .int .i64 xx, .int .i64 y] 91)).ownsRow w.heap.size 93 4 u3 acc.length (acc.flatMap Bl.cells)) := O1.out.alloc _
      have B2 : Hid (Below w.heap.size w (w1.alloc (.cells #[.int .i64 z, .int .i64 xx, .int .i64 y] 91))) := B1.out.alloc B1.out.size _
      have R2 : Hid ((w1.alloc (.cells #[.int .i64 z, .int .i64 xx, .int .i64 y] 91)).ranges Tryz.prog 91 (plainElem Tryz.prog 9) mb w.heap.size n D (fun q => left q && !q.sameKey (Tl.mk z xx y).key) cnt1) := R1.out.alloc _
      have hsz1 : (w1.alloc (.cells #[.int .i64 z, .int .i64 xx, .int .i64 y] 91)).heap.size = w1.heap.size + 1 := by simp
      have HSZ := Lib.hid hsz1
      clear hsz1
      have hlim : acc.length + 1 ≤ 1000000000 := by have := HLT.out; omega
      go_wp2_with (
        at_builtin
        refine app1 rfl _ _ 35 93 (.agg #[.int .i64 0, .int .i64 0, .int .i64 0, .string ⟨#[]⟩]) 4 40 w.heap.size [.int .i64 z, .int .i64 xx, .int .i64 y, .string c] rfl Tryz.underlying35 info_blob rfl (by omega) (by omega) u3 acc.length (acc.flatMap Bl.cells) (by rfl) (by simp [Act.eval]) rfl (by intro u hu; simp at hu; rcases hu with rfl | rfl | rfl | rfl <;> rfl) O2.out B2.out.size (by omega) ?_
        intro v5 w5 hown5 hg5 hat5
        have HO5 := Lib.hid hown5
        have HG5 := Lib.hid hg5
        clear hown5 hg5 hat5)
      have own5 : Hid (w5.ownsRow w.heap.size 93 4 v5 (acc ++ [(⟨⟨z, xx, y⟩, c⟩ : Bl)]).length ((acc ++ [(⟨⟨z, xx, y⟩, c⟩ : Bl)]).flatMap Bl.cells)) := by
        have e1 : (acc ++ [(⟨⟨z, xx, y⟩, c⟩ : Bl)]).flatMap Bl.cells = acc.flatMap Bl.cells ++ [.int .i64 z, .int .i64 xx, .int .i64 y, .string c] := by simp [Bl.cells]
        show w5.ownsRow _ _ _ _ _ _
        rw [e1, List.length_append]; exact HO5.out
      have hnm : ∀ k, u3.ownBlock = some k → k ≠ mb ∧ k ≠ w.heap.size := by
        intro k hk
        obtain ⟨cc, hcc⟩ := own_elem O2.out hk
        obtain ⟨es, clock, since, seen, c0, hb, F, hs, hD, hr, rest⟩ := R2.out
        exact ⟨fun e => (by rw [e, hb] at hcc; cases hcc), fun e => (by rw [e, hr] at hcc; cases hcc)⟩
      have rg5 : Hid (w5.ranges Tryz.prog 91 (plainElem Tryz.prog 9) mb w.heap.size n D (fun q => left q && !q.sameKey (Tl.mk z xx y).key) cnt1) :=
        R2.out.kept HG5.out (fun e => (hnm _ e.symm).1 rfl) (fun e => (hnm _ e.symm).2 rfl)
      have b5 : Hid (Below w.heap.size w w5) := B2.out.grown HG5.out B2.out.size (fun j hj => (own_base' O2.out hj).1)
      have HNL : Hid (acc.length + 1 + cnt1 ≤ 1000000000) := by show _ ≤ _; have := HLT.out; omega
      go_roundw
      case rel => exact ⟨_, cnt1, acc ++ [(⟨⟨z, xx, y⟩, c⟩ : Bl)], rg5.out, by have := HNL.out; simp; omega, own5.out, b5.out, C1.out⟩
      case measure => rw [rg5.out.left_eq, HRG2.out.left_eq]; exact HLT.out
end Go.Proofs.YtjflcpkmoamijaaGreatDoor
