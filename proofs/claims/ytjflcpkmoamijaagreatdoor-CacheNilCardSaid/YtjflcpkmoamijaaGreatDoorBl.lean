import Derived.Test.YtjflcpkmoamijaaGreatDoorTg2
import Derived.Test.YtjflcpkmoamijaaGreatDoorJn9
namespace Go.Proofs.YtjflcpkmoamijaaGreatDoor
open Go.RowKit
set_option linter.unusedVariables false
set_option linter.unusedSimpArgs false
set_option linter.unnecessarySimpa false

structure Bl where
  t : Tl
  s : ByteArray
def Bl.cells (b : Bl) : List Value := [.int .i64 b.t.z, .int .i64 b.t.x, .int .i64 b.t.y, .string b.s]
def Bl.v (b : Bl) : Value := .agg #[.int .i64 b.t.z, .int .i64 b.t.x, .int .i64 b.t.y, .string b.s]
/-- A slice of tiles that can be read. -/
structure BlobsAt (w : World) (v : Value) (l : List Bl) : Prop where
  sl : ∃ ao c, v = .slice ao l.length c ∧ (l ≠ [] → ∃ b o, ao = some ⟨b, o, none⟩)
  at_ : ∀ b o n c, v = .slice (some ⟨b, o, none⟩) n c → w.rangeAt b o (l.flatMap Bl.cells)
theorem lt_of_cell' {w : World} {a : Addr} {v : Value} (h : w.cell? a = some v) : a.block < w.heap.size := by
  by_cases hn : a.block < w.heap.size
  · exact hn
  · have h0 : w.heap[a.block]? = none := Array.getElem?_eq_none (by omega)
    simp [World.cell?, h0] at h
theorem rangeAt_fr {w w' : World} {b o : Nat} {cs : List Value} {S : Nat → Prop} (h : w.rangeAt b o cs) (k : Fr w w' S) (hn : ¬ S b) : w'.rangeAt b o cs := by
  intro j u hj
  have h1 := h j u hj
  exact (World.cell?_of_block (k.block b (lt_of_cell' h1) hn)).trans h1
theorem BlobsAt.fr {w w' : World} {v : Value} {l : List Bl} {S : Nat → Prop} (h : BlobsAt w v l) (k : Fr w w' S) (hn : ∀ b, v.ownBlock = some b → ¬ S b) : BlobsAt w' v l := by
  refine ⟨h.sl, fun b o n c hv => rangeAt_fr (h.at_ b o n c hv) k (hn b (by rw [hv]; rfl))⟩
theorem BlobsAt.drewN {w : World} {v : Value} {l : List Bl} (h : BlobsAt w v l) (n : Nat) : BlobsAt (w.drewN n) v l := ⟨h.sl, h.at_⟩
theorem BlobsAt.nth {w : World} {l : List Bl} {b o n c : Nat} (h : BlobsAt w (.slice (some ⟨b, o, none⟩) n c) l) (i : Nat) (hi : i < l.length) : w.rangeAt b (o + i * 4) (l[i]).cells := by
  intro j u hj
  have h1 := h.at_ b o n c rfl (i * 4 + j) u
  have hj4 : j < 4 := (List.getElem?_eq_some_iff.1 hj).1
  rw [flat_get Bl.cells 4 l i j (fun _ _ => rfl) hi hj4] at h1
  rw [Nat.add_assoc]
  exact h1 hj
theorem range_tile {w : World} {b o : Nat} {x : Bl} (h : w.rangeAt b o x.cells) : w.rangeAt b o x.t.cells := by
  intro j u hj
  have hj3 : j < 3 := (List.getElem?_eq_some_iff.1 hj).1
  refine h j u ?_
  rcases (by omega : j = 0 ∨ j = 1 ∨ j = 2) with rfl | rfl | rfl <;> exact hj
theorem load_blob {w : World} {b o : Nat} {x : Bl} (h : w.rangeAt b o x.cells) : (Instr.loadAt 93 (.pointer (some ⟨b, o, none⟩))).run Tryz.prog w = .ok x.v w :=
  run_loadAt_mid w b o 93 x.cells _ h Tryz.underlying93 rfl (by kernel_rfl)
theorem load_tile {w : World} {b o : Nat} {x : Tl} (h : w.rangeAt b o x.cells) : (Instr.loadAt 91 (.pointer (some ⟨b, o, none⟩))).run Tryz.prog w = .ok x.v w :=
  run_loadAt_mid w b o 91 x.cells _ h Tryz.underlying91 rfl (by kernel_rfl)
theorem range_new (w : World) (x : Bl) : (w.alloc (.cells #[.int .i64 x.t.z, .int .i64 x.t.x, .int .i64 x.t.y, .string x.s] 93)).rangeAt w.heap.size 0 x.cells := by
  intro j u hj
  rw [Nat.zero_add, World.cell?_alloc_new]
  rw [← hj]
  simp [Bl.cells]
theorem range4 {w : World} {b o : Nat} {x : Bl} (h : w.rangeAt b o x.cells) : w.cell? ⟨b, o, none⟩ = some (.int .i64 x.t.z) ∧ w.cell? ⟨b, o + 1, none⟩ = some (.int .i64 x.t.x) ∧ w.cell? ⟨b, o + 2, none⟩ = some (.int .i64 x.t.y) ∧ w.cell? ⟨b, o + 3, none⟩ = some (.string x.s) :=
  ⟨h 0 _ rfl, h 1 _ rfl, h 2 _ rfl, h 3 _ rfl⟩
theorem wrap_pred (i : Nat) (h : i < 1000000000) : IntKind.i64.wrap (((i + 1 : Nat) : Int) - 1) = (i : Int) := by
  rw [IntKind.wrap_i64]; omega
theorem wrap_self (i : Nat) (h : i < 1000000000) : IntKind.i64.wrap (i : Int) = (i : Int) := by
  rw [IntKind.wrap_i64]; omega
def tlAt (l : List Bl) (i : Nat) : Tl := ((l[i]?).map (·.t)).getD ⟨0, 0, 0⟩
theorem tlAt_get {l : List Bl} {i : Nat} (h : i < l.length) : tlAt l i = (l[i]).t := by simp [tlAt, List.getElem?_eq_getElem h]
def goodAt (l : List Bl) (i : Nat) : Bool := (tlAt l i).ok && (decide (i = 0) || (tlAt l (i - 1)).less (tlAt l i))
def ordB (l : List Bl) : Bool := (List.range l.length).all (goodAt l)
theorem ordB_false {l : List Bl} {i : Nat} (hi : i < l.length) (h : goodAt l i = false) : ordB l = false := by
  unfold ordB; rw [List.all_eq_false]; exact ⟨i, by simpa using hi, by simpa using h⟩
theorem ordB_true {l : List Bl} (h : ∀ i, i < l.length → goodAt l i = true) : ordB l = true := by
  unfold ordB; rw [List.all_eq_true]; intro i hi; exact h i (by simpa using hi)
set_option maxHeartbeats 1000000 in
set_option maxRecDepth 100000 in
theorem ordered_any (v : Value) (l : List Bl) (w : World) (h : BlobsAt w v l) (hl : l.length ≤ 1000000000) :
    Calls Tryz.prog 47 #[v] w fun e w' => e = .returned (.bool (ordB l)) ∧ Below w.heap.size w w' := by
  obtain ⟨ao, c, rfl, hne⟩ := h.sl
  have H := Lib.hid h
  have HNE := Lib.hid hne
  clear h hne
  go_enter Tryz.func47, Tryz.ntmps47
  go_wp2_with fail
  go_loopw [7] (fun v wr => ∃ i : Nat, v = .int .i64 i ∧ i ≤ l.length ∧ Hid (∀ j, j < i → goodAt l j = true) ∧ Hid (Below w.heap.size w wr)) (fun v _ => l.length - (intOf v).toNat)
  case atStart => exact ⟨0, rfl, by omega, fun j hj => by omega, Below.refl _ _⟩
  case round =>
    obtain ⟨i, rfl, hi, hg, hB⟩ := hrel
    by_cases hic : i < l.length
    · have hic' : (i : Int) < (l.length : Int) := by omega
      obtain ⟨b, o, rfl⟩ := HNE.out (by intro h; subst h; simp at hic)
      have Hr := Lib.hid (H.out.fr (Fr.of_below hB.out Nowhere) (fun _ _ h => h))
      have hx := Hr.out.nth i hic
      have hx4 := range4 hx
      have HX := Lib.hid hx
      generalize hxx : l[i] = x at *
      obtain ⟨⟨z, x, y⟩, s⟩ := x
      obtain ⟨k0, k1, k2, k3⟩ := hx4
      simp only at k0 k1 k2 k3
      clear hx
      have hgi : goodAt l i = ((⟨z, x, y⟩ : Tl).ok && (decide (i = 0) || (tlAt l (i - 1)).less ⟨z, x, y⟩)) := by
        unfold goodAt; rw [tlAt_get hic, hxx]
      have HGI := Lib.hid hgi
      have hS0 : (wr.alloc (.cells #[.int .i64 z, .int .i64 x, .int .i64 y, .string s] 93)).rangeAt wr.heap.size 0 (Bl.mk ⟨z, x, y⟩ s).cells := range_new wr ⟨⟨z, x, y⟩, s⟩
      have hS1 : BlobsAt (wr.alloc (.cells #[.int .i64 z, .int .i64 x, .int .i64 y, .string s] 93)) (.slice (some ⟨b, o, none⟩) l.length c) l := Hr.out.fr ((Fr.refl _ Nowhere).alloc _) (fun _ _ h => h)
      have hB1 : Below w.heap.size w (wr.alloc (.cells #[.int .i64 z, .int .i64 x, .int .i64 y, .string s] 93)) := hB.out.alloc hB.out.size _
      have HS0 := Lib.hid hS0
      have HS1 := Lib.hid hS1
      have HB1 := Lib.hid hB1
      clear hgi hxx hS0 hS1 hB1
      go_wp2_with fail
      clear k0 k1 k2 k3 HX Hr hB
      generalize wr.alloc (.cells #[.int .i64 z, .int .i64 x, .int .i64 y, .string s] 93) = w1 at *
      have hSS : w1.drew.rangeAt wr.heap.size 0 (Bl.mk ⟨z, x, y⟩ s).cells ∧ BlobsAt w1.drew (.slice (some ⟨b, o, none⟩) l.length c) l := ⟨HS0.out, HS1.out.drewN 1⟩
      have HSS := Lib.hid hSS
      clear hSS
      rcases hok : (⟨z, x, y⟩ : Tl).ok with _ | _
      · have hbad : ordB l = false := ordB_false hic (by rw [HGI.out, hok]; rfl)
        have HBAD := Lib.hid hbad
        clear hbad
        refine region_seq (fun w' => w'.rangeAt wr.heap.size 0 (Bl.mk ⟨z, x, y⟩ s).cells ∧ BlobsAt w' (.slice (some ⟨b, o, none⟩) l.length c) l) []
          [(.p, 0), (.q, 1), (.l, 2), (.p, 3), (.p, 4), (.p, 5), (.p, 6), (.p, 7), (.p, 8), (.p, 9), (.p, 10), (.p, 11), (.p, 12), (.p, 13), (.p, 14), (.p, 15), (.p, 16), (.p, 17), (.p, 18), (.p, 19)] (by kernel_rfl) (by kernel_rfl) (by kernel_rfl) (by kernel_rfl) (fun d v c a w h => by cases d <;> exact h) ?_
        (refine seq_p (N := some 12) rfl rfl (by rfl) ?_ (fun w' => ?_) ?_
         rotate_left
         · go_simp
           with_reducible rfl
         simp only [Act.put, List.setIfInBounds_toArray, List.set_cons_zero, List.set_cons_succ])
        (refine seq_q (N := some 13) rfl rfl (by rfl) (Tl.mk z x y).v ?_ HSS.out ?_
         · rintro w' ⟨s1, s2⟩
           exact run_ld rfl rfl (load_tile (range_tile s1))
         simp only [Act.put, List.setIfInBounds_toArray, List.set_cons_zero, List.set_cons_succ])
        refine seq_l rfl (by rfl) (wp_cl (N := some 14) (f := 80) (vs := #[(Tl.mk z x y).v]) rfl rfl (by simp [Act.eval]) (callF Tryz.func80 rfl (by decide) _ _) ?_)
        refine (TCheck_any ⟨z, x, y⟩ _).mono ?_
        rintro e w5 ⟨rfl, b5⟩
        have b5' : Below w1.heap.size w1 w5 := ((Below.refl w1.heap.size w1).drew).trans (by exact b5)
        have h5 : w5.rangeAt wr.heap.size 0 (Bl.mk ⟨z, x, y⟩ s).cells ∧ BlobsAt w5 (.slice (some ⟨b, o, none⟩) l.length c) l := ⟨rangeAt_fr HS0.out (Fr.of_below b5' Nowhere) (fun h => h), HS1.out.fr (Fr.of_below b5' Nowhere) (fun _ _ h => h)⟩
        have HB5 := Lib.hid (HB1.out.trans (b5'.mono HB1.out.size))
        have HS5 := Lib.hid h5
        clear b5 b5' h5
        rw [hok]
        refine ⟨_, rfl, ?_⟩
        simp only [Act.put, List.setIfInBounds_toArray, List.set_cons_zero, List.set_cons_succ]
        refine ⟨fun _ => HS5.out, ?_⟩
        simp only [Bool.false_eq_true, if_false]
        (refine seq_p (N := some 15) rfl rfl (by rfl) ?_ (fun w' => ?_) ?_
         rotate_left
         · go_simp
           with_reducible rfl
         simp only [Act.put, List.setIfInBounds_toArray, List.set_cons_zero, List.set_cons_succ])
        (refine seq_p (N := some 16) rfl rfl (by rfl) ?_ (fun w' => ?_) ?_
         rotate_left
         · go_simp
           with_reducible rfl
         simp only [Act.put, List.setIfInBounds_toArray, List.set_cons_zero, List.set_cons_succ])
        (refine seq_off (N := some 17) rfl rfl (by rfl) ?_
         simp only [Act.put, List.setIfInBounds_toArray, List.set_cons_zero, List.set_cons_succ])
        (refine seq_off (N := some 18) rfl rfl (by rfl) ?_
         simp only [Act.put, List.setIfInBounds_toArray, List.set_cons_zero, List.set_cons_succ])
        (refine seq_off (N := some 19) rfl rfl (by rfl) ?_
         simp only [Act.put, List.setIfInBounds_toArray, List.set_cons_zero, List.set_cons_succ])
        (refine seq_off (N := some 20) rfl rfl (by rfl) ?_
         simp only [Act.put, List.setIfInBounds_toArray, List.set_cons_zero, List.set_cons_succ])
        (refine seq_off (N := some 21) rfl rfl (by rfl) ?_
         simp only [Act.put, List.setIfInBounds_toArray, List.set_cons_zero, List.set_cons_succ])
        (refine seq_off (N := some 22) rfl rfl (by rfl) ?_
         simp only [Act.put, List.setIfInBounds_toArray, List.set_cons_zero, List.set_cons_succ])
        (refine seq_off (N := some 23) rfl rfl (by rfl) ?_
         simp only [Act.put, List.setIfInBounds_toArray, List.set_cons_zero, List.set_cons_succ])
        (refine seq_off (N := some 24) rfl rfl (by rfl) ?_
         simp only [Act.put, List.setIfInBounds_toArray, List.set_cons_zero, List.set_cons_succ])
        (refine seq_off (N := some 25) rfl rfl (by rfl) ?_
         simp only [Act.put, List.setIfInBounds_toArray, List.set_cons_zero, List.set_cons_succ])
        (refine seq_off (N := some 26) rfl rfl (by rfl) ?_
         simp only [Act.put, List.setIfInBounds_toArray, List.set_cons_zero, List.set_cons_succ])
        (refine seq_off (N := some 27) rfl rfl (by rfl) ?_
         simp only [Act.put, List.setIfInBounds_toArray, List.set_cons_zero, List.set_cons_succ])
        (refine seq_off (N := some 28) rfl rfl (by rfl) ?_
         simp only [Act.put, List.setIfInBounds_toArray, List.set_cons_zero, List.set_cons_succ])
        (refine seq_off (N := some 29) rfl rfl (by rfl) ?_
         simp only [Act.put, List.setIfInBounds_toArray, List.set_cons_zero, List.set_cons_succ])
        (refine seq_off (N := some 30) rfl rfl (by rfl) ?_
         simp only [Act.put, List.setIfInBounds_toArray, List.set_cons_zero, List.set_cons_succ])
        (refine seq_p (N := some 31) rfl rfl (by rfl) ?_ (fun w' => ?_) ?_
         rotate_left
         · go_simp
           with_reducible rfl
         simp only [Act.put, List.setIfInBounds_toArray, List.set_cons_zero, List.set_cons_succ])
        refine seq_nil ?_
        go_wp2_with fail
        go_ret
        exact ⟨by rw [HBAD.out]; rfl, HB5.out⟩
      · rcases i with _ | i
        · have HG : Hid (∀ j, j < 0 + 1 → goodAt l j = true) := by
            intro j hj
            obtain rfl : j = 0 := by omega
            rw [HGI.out, hok]; rfl
          refine region_seq (fun w' => w'.rangeAt wr.heap.size 0 (Bl.mk ⟨z, x, y⟩ s).cells ∧ BlobsAt w' (.slice (some ⟨b, o, none⟩) l.length c) l) []
            [(.p, 0), (.q, 1), (.l, 2), (.p, 3), (.p, 4), (.p, 5), (.p, 6), (.p, 7), (.p, 8), (.p, 9), (.p, 10), (.p, 11), (.p, 12), (.p, 13), (.p, 14), (.p, 15), (.p, 16), (.p, 17), (.p, 18), (.p, 19)] (by kernel_rfl) (by kernel_rfl) (by kernel_rfl) (by kernel_rfl) (fun d v c a w h => by cases d <;> exact h) ?_
          (refine seq_p (N := some 12) rfl rfl (by rfl) ?_ (fun w' => ?_) ?_
           rotate_left
           · go_simp
             with_reducible rfl
           simp only [Act.put, List.setIfInBounds_toArray, List.set_cons_zero, List.set_cons_succ])
          (refine seq_q (N := some 13) rfl rfl (by rfl) (Tl.mk z x y).v ?_ HSS.out ?_
           · rintro w' ⟨s1, s2⟩
             exact run_ld rfl rfl (load_tile (range_tile s1))
           simp only [Act.put, List.setIfInBounds_toArray, List.set_cons_zero, List.set_cons_succ])
          refine seq_l rfl (by rfl) (wp_cl (N := some 14) (f := 80) (vs := #[(Tl.mk z x y).v]) rfl rfl (by simp [Act.eval]) (callF Tryz.func80 rfl (by decide) _ _) ?_)
          refine (TCheck_any ⟨z, x, y⟩ _).mono ?_
          rintro e w5 ⟨rfl, b5⟩
          have b5' : Below w1.heap.size w1 w5 := ((Below.refl w1.heap.size w1).drew).trans (by exact b5)
          have h5 : w5.rangeAt wr.heap.size 0 (Bl.mk ⟨z, x, y⟩ s).cells ∧ BlobsAt w5 (.slice (some ⟨b, o, none⟩) l.length c) l := ⟨rangeAt_fr HS0.out (Fr.of_below b5' Nowhere) (fun h => h), HS1.out.fr (Fr.of_below b5' Nowhere) (fun _ _ h => h)⟩
          have HB5 := Lib.hid (HB1.out.trans (b5'.mono HB1.out.size))
          have HS5 := Lib.hid h5
          clear b5 b5' h5
          rw [hok]
          refine ⟨_, rfl, ?_⟩
          simp only [Act.put, List.setIfInBounds_toArray, List.set_cons_zero, List.set_cons_succ]
          refine ⟨fun _ => HS5.out, ?_⟩
          simp only [if_true]
          (refine seq_p (N := some 15) rfl rfl (by rfl) ?_ (fun w' => ?_) ?_
           rotate_left
           · go_simp
             with_reducible rfl
           simp only [Act.put, List.setIfInBounds_toArray, List.set_cons_zero, List.set_cons_succ])
          (refine seq_p (N := some 16) rfl rfl (by rfl) ?_ (fun w' => ?_) ?_
           rotate_left
           · go_simp
             with_reducible rfl
           simp only [Act.put, List.setIfInBounds_toArray, List.set_cons_zero, List.set_cons_succ])
          (refine seq_p (N := some 17) rfl rfl (by rfl) ?_ (fun w' => ?_) ?_
           rotate_left
           · go_simp
             with_reducible rfl
           simp only [Act.put, List.setIfInBounds_toArray, List.set_cons_zero, List.set_cons_succ])
          (refine seq_p (N := some 18) rfl rfl (by rfl) ?_ (fun w' => ?_) ?_
           rotate_left
           · go_simp
             with_reducible rfl
           simp only [Act.put, List.setIfInBounds_toArray, List.set_cons_zero, List.set_cons_succ])
          (refine seq_p (N := some 19) rfl rfl (by rfl) ?_ (fun w' => ?_) ?_
           rotate_left
           · go_simp
             with_reducible rfl
           simp only [Act.put, List.setIfInBounds_toArray, List.set_cons_zero, List.set_cons_succ])
          (refine seq_off (N := some 20) rfl rfl (by rfl) ?_
           simp only [Act.put, List.setIfInBounds_toArray, List.set_cons_zero, List.set_cons_succ])
          (refine seq_off (N := some 21) rfl rfl (by rfl) ?_
           simp only [Act.put, List.setIfInBounds_toArray, List.set_cons_zero, List.set_cons_succ])
          (refine seq_off (N := some 22) rfl rfl (by rfl) ?_
           simp only [Act.put, List.setIfInBounds_toArray, List.set_cons_zero, List.set_cons_succ])
          (refine seq_off (N := some 23) rfl rfl (by rfl) ?_
           simp only [Act.put, List.setIfInBounds_toArray, List.set_cons_zero, List.set_cons_succ])
          (refine seq_off (N := some 24) rfl rfl (by rfl) ?_
           simp only [Act.put, List.setIfInBounds_toArray, List.set_cons_zero, List.set_cons_succ])
          (refine seq_off (N := some 25) rfl rfl (by rfl) ?_
           simp only [Act.put, List.setIfInBounds_toArray, List.set_cons_zero, List.set_cons_succ])
          (refine seq_off (N := some 26) rfl rfl (by rfl) ?_
           simp only [Act.put, List.setIfInBounds_toArray, List.set_cons_zero, List.set_cons_succ])
          (refine seq_off (N := some 27) rfl rfl (by rfl) ?_
           simp only [Act.put, List.setIfInBounds_toArray, List.set_cons_zero, List.set_cons_succ])
          (refine seq_off (N := some 28) rfl rfl (by rfl) ?_
           simp only [Act.put, List.setIfInBounds_toArray, List.set_cons_zero, List.set_cons_succ])
          (refine seq_off (N := some 29) rfl rfl (by rfl) ?_
           simp only [Act.put, List.setIfInBounds_toArray, List.set_cons_zero, List.set_cons_succ])
          (refine seq_p (N := some 30) rfl rfl (by rfl) ?_ (fun w' => ?_) ?_
           rotate_left
           · go_simp
             with_reducible rfl
           simp only [Act.put, List.setIfInBounds_toArray, List.set_cons_zero, List.set_cons_succ])
          (refine seq_p (N := some 31) rfl rfl (by rfl) ?_ (fun w' => ?_) ?_
           rotate_left
           · go_simp
             with_reducible rfl
           simp only [Act.put, List.setIfInBounds_toArray, List.set_cons_zero, List.set_cons_succ])
          refine seq_nil ?_
          go_wp2_with fail
          go_roundw
          case rel => exact ⟨0 + 1, by go_num, by omega, HG.out, HB5.out⟩
          case measure => simp [intOf]; omega
        · have hi2 : (i : Int) < (l.length : Int) := by omega
          have hi3 : i < l.length := by omega
          have hwi := wrap_pred i (by omega)
          have hwj := wrap_self i (by omega)
          have htl := tlAt_get hi3
          have HTL := Lib.hid htl
          have hpos : (0 : Int) < ((i + 1 : Nat) : Int) := by omega
          clear htl
          refine region_seq (fun w' => w'.rangeAt wr.heap.size 0 (Bl.mk ⟨z, x, y⟩ s).cells ∧ BlobsAt w' (.slice (some ⟨b, o, none⟩) l.length c) l) []
            [(.p, 0), (.q, 1), (.l, 2), (.p, 3), (.p, 4), (.p, 5), (.p, 6), (.p, 7), (.p, 8), (.p, 9), (.p, 10), (.p, 11), (.p, 12), (.q, 13), (.p, 14), (.q, 15), (.l, 16), (.p, 17), (.p, 18), (.p, 19)] (by kernel_rfl) (by kernel_rfl) (by kernel_rfl) (by kernel_rfl) (fun d v c a w h => by cases d <;> exact h) ?_
          (refine seq_p (N := some 12) rfl rfl (by rfl) ?_ (fun w' => ?_) ?_
           rotate_left
           · go_simp
             with_reducible rfl
           simp only [Act.put, List.setIfInBounds_toArray, List.set_cons_zero, List.set_cons_succ])
          (refine seq_q (N := some 13) rfl rfl (by rfl) (Tl.mk z x y).v ?_ HSS.out ?_
           · rintro w' ⟨s1, s2⟩
             exact run_ld rfl rfl (load_tile (range_tile s1))
           simp only [Act.put, List.setIfInBounds_toArray, List.set_cons_zero, List.set_cons_succ])
          refine seq_l rfl (by rfl) (wp_cl (N := some 14) (f := 80) (vs := #[(Tl.mk z x y).v]) rfl rfl (by simp [Act.eval]) (callF Tryz.func80 rfl (by decide) _ _) ?_)
          refine (TCheck_any ⟨z, x, y⟩ _).mono ?_
          rintro e w5 ⟨rfl, b5⟩
          have b5' : Below w1.heap.size w1 w5 := ((Below.refl w1.heap.size w1).drew).trans (by exact b5)
          have h5 : w5.rangeAt wr.heap.size 0 (Bl.mk ⟨z, x, y⟩ s).cells ∧ BlobsAt w5 (.slice (some ⟨b, o, none⟩) l.length c) l := ⟨rangeAt_fr HS0.out (Fr.of_below b5' Nowhere) (fun h => h), HS1.out.fr (Fr.of_below b5' Nowhere) (fun _ _ h => h)⟩
          have HB5 := Lib.hid (HB1.out.trans (b5'.mono HB1.out.size))
          have HS5 := Lib.hid h5
          clear b5 b5' h5
          rw [hok]
          refine ⟨_, rfl, ?_⟩
          simp only [Act.put, List.setIfInBounds_toArray, List.set_cons_zero, List.set_cons_succ]
          refine ⟨fun _ => HS5.out, ?_⟩
          simp only [if_true]
          (refine seq_p (N := some 15) rfl rfl (by rfl) ?_ (fun w' => ?_) ?_
           rotate_left
           · go_simp
             with_reducible rfl
           simp only [Act.put, List.setIfInBounds_toArray, List.set_cons_zero, List.set_cons_succ])
          (refine seq_p (N := some 16) rfl rfl (by rfl) ?_ (fun w' => ?_) ?_
           rotate_left
           · go_simp
             with_reducible rfl
           simp only [Act.put, List.setIfInBounds_toArray, List.set_cons_zero, List.set_cons_succ])
          (refine seq_p (N := some 17) rfl rfl (by rfl) ?_ (fun w' => ?_) ?_
           rotate_left
           · go_simp
             with_reducible rfl
           simp only [Act.put, List.setIfInBounds_toArray, List.set_cons_zero, List.set_cons_succ])
          (refine seq_p (N := some 18) rfl rfl (by rfl) ?_ (fun w' => ?_) ?_
           rotate_left
           · go_simp
             with_reducible rfl
           simp only [Act.put, List.setIfInBounds_toArray, List.set_cons_zero, List.set_cons_succ])
          (refine seq_p (N := some 19) rfl rfl (by rfl) ?_ (fun w' => ?_) ?_
           rotate_left
           · go_simp
             with_reducible rfl
           simp only [Act.put, List.setIfInBounds_toArray, List.set_cons_zero, List.set_cons_succ])
          (refine seq_p (N := some 20) rfl rfl (by rfl) ?_ (fun w' => ?_) ?_
           rotate_left
           · go_simp
             with_reducible rfl
           simp only [Act.put, List.setIfInBounds_toArray, List.set_cons_zero, List.set_cons_succ])
          (refine seq_p (N := some 21) rfl rfl (by rfl) ?_ (fun w' => ?_) ?_
           rotate_left
           · go_simp
             with_reducible rfl
           simp only [Act.put, List.setIfInBounds_toArray, List.set_cons_zero, List.set_cons_succ])
          (refine seq_p (N := some 22) rfl rfl (by rfl) ?_ (fun w' => ?_) ?_
           rotate_left
           · go_simp
             with_reducible rfl
           simp only [Act.put, List.setIfInBounds_toArray, List.set_cons_zero, List.set_cons_succ])
          (refine seq_p (N := some 23) rfl rfl (by rfl) ?_ (fun w' => ?_) ?_
           rotate_left
           · go_simp
             with_reducible rfl
           simp only [Act.put, List.setIfInBounds_toArray, List.set_cons_zero, List.set_cons_succ])
          (refine seq_p (N := some 24) rfl rfl (by rfl) ?_ (fun w' => ?_) ?_
           rotate_left
           · go_simp
             with_reducible rfl
           simp only [Act.put, List.setIfInBounds_toArray, List.set_cons_zero, List.set_cons_succ])
          (refine seq_q (N := some 25) rfl rfl (by rfl) (tlAt l i).v ?_ HS5.out ?_
           · rintro w' ⟨s1, s2⟩
             exact run_ld rfl rfl (by rw [HTL.out]; exact load_tile (range_tile (s2.nth i hi3)))
           simp only [Act.put, List.setIfInBounds_toArray, List.set_cons_zero, List.set_cons_succ])
          (refine seq_p (N := some 26) rfl rfl (by rfl) ?_ (fun w' => ?_) ?_
           rotate_left
           · go_simp
             with_reducible rfl
           simp only [Act.put, List.setIfInBounds_toArray, List.set_cons_zero, List.set_cons_succ])
          (refine seq_q (N := some 27) rfl rfl (by rfl) (Tl.mk z x y).v ?_ HS5.out ?_
           · rintro w' ⟨s1, s2⟩
             exact run_ld rfl rfl (load_tile (range_tile s1))
           simp only [Act.put, List.setIfInBounds_toArray, List.set_cons_zero, List.set_cons_succ])
          refine seq_l rfl (by rfl) (wp_cl (N := some 28) (f := 61) (vs := #[(tlAt l i).v, (Tl.mk z x y).v]) rfl rfl (by simp [Act.eval]) (callF Tryz.func61 rfl (by decide) _ _) ?_)
          refine (Less_any (tlAt l i) ⟨z, x, y⟩ _).mono ?_
          rintro e w6 ⟨rfl, b6⟩
          have HB6 := Lib.hid (HB5.out.trans (b6.mono HB5.out.size))
          have HS6 := Lib.hid (show w6.rangeAt wr.heap.size 0 (Bl.mk ⟨z, x, y⟩ s).cells ∧ BlobsAt w6 (.slice (some ⟨b, o, none⟩) l.length c) l from ⟨rangeAt_fr HS5.out.1 (Fr.of_below b6 Nowhere) (fun h => h), HS5.out.2.fr (Fr.of_below b6 Nowhere) (fun _ _ h => h)⟩)
          clear b6
          refine ⟨_, rfl, ?_⟩
          simp only [Act.put, List.setIfInBounds_toArray, List.set_cons_zero, List.set_cons_succ]
          refine ⟨fun _ => HS6.out, ?_⟩
          rcases hls : (tlAt l i).less ⟨z, x, y⟩ with _ | _
          · have hbad : ordB l = false := ordB_false hic (by rw [HGI.out, hok, Nat.add_sub_cancel, hls]; simp)
            have HBAD := Lib.hid hbad
            clear hbad
            (refine seq_p (N := some 29) rfl rfl (by rfl) ?_ (fun w' => ?_) ?_
             rotate_left
             · go_simp
               with_reducible rfl
             simp only [Act.put, List.setIfInBounds_toArray, List.set_cons_zero, List.set_cons_succ])
            (refine seq_p (N := some 30) rfl rfl (by rfl) ?_ (fun w' => ?_) ?_
             rotate_left
             · go_simp
               with_reducible rfl
             simp only [Act.put, List.setIfInBounds_toArray, List.set_cons_zero, List.set_cons_succ])
            (refine seq_p (N := some 31) rfl rfl (by rfl) ?_ (fun w' => ?_) ?_
             rotate_left
             · go_simp
               with_reducible rfl
             simp only [Act.put, List.setIfInBounds_toArray, List.set_cons_zero, List.set_cons_succ])
            refine seq_nil ?_
            go_wp2_with fail
            go_ret
            exact ⟨by rw [HBAD.out]; rfl, HB6.out⟩
          · have HG : Hid (∀ j, j < i + 1 + 1 → goodAt l j = true) := by
              intro j hj
              by_cases hji : j = i + 1
              · rw [hji, HGI.out, hok, Nat.add_sub_cancel, hls]; simp
              · exact hg.out j (by omega)
            (refine seq_p (N := some 29) rfl rfl (by rfl) ?_ (fun w' => ?_) ?_
             rotate_left
             · go_simp
               with_reducible rfl
             simp only [Act.put, List.setIfInBounds_toArray, List.set_cons_zero, List.set_cons_succ])
            (refine seq_p (N := some 30) rfl rfl (by rfl) ?_ (fun w' => ?_) ?_
             rotate_left
             · go_simp
               with_reducible rfl
             simp only [Act.put, List.setIfInBounds_toArray, List.set_cons_zero, List.set_cons_succ])
            (refine seq_p (N := some 31) rfl rfl (by rfl) ?_ (fun w' => ?_) ?_
             rotate_left
             · go_simp
               with_reducible rfl
             simp only [Act.put, List.setIfInBounds_toArray, List.set_cons_zero, List.set_cons_succ])
            refine seq_nil ?_
            go_wp2_with fail
            go_roundw
            case rel => exact ⟨i + 1 + 1, by go_num, by omega, HG.out, HB6.out⟩
            case measure => simp [intOf]; omega
    · have hic' : ¬ (i : Int) < (l.length : Int) := by omega
      go_wp2_with fail
      go_ret
      exact ⟨by rw [ordB_true (fun j hj => hg.out j (by omega))]; rfl, hB.out⟩
end Go.Proofs.YtjflcpkmoamijaaGreatDoor
