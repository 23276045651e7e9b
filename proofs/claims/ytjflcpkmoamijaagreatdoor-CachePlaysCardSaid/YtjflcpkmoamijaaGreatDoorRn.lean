import Derived.Test.YtjflcpkmoamijaaGreatDoorRm
namespace Go.Proofs.YtjflcpkmoamijaaGreatDoor
open Go.RowKit
set_option linter.unusedVariables false
set_option linter.unusedSimpArgs false
set_option linter.unnecessarySimpa false

/-! ### The reference's Put: plain -/
def putL (x : Bl) : Bool → List Bl → List Bl
  | d, [] => if d then [] else [x]
  | d, y :: r => if d = false ∧ x.t.less y.t = true then x :: (if y.t = x.t then putL x true r else y :: putL x true r)
    else if y.t = x.t then (if d then putL x true r else x :: putL x true r) else y :: putL x d r
theorem putL_del (x : Bl) : ∀ T : List Bl, putL x true T = delT T x.t
  | [] => rfl
  | y :: r => by
    have := putL_del x r
    unfold putL
    rw [if_neg (by simp)]
    by_cases h : y.t = x.t
    · rw [if_pos h, if_pos rfl, this]; simp [delT, h]
    · rw [if_neg h, this]; simp [delT, h]
theorem del_all {r : List Bl} {t : Tl} (h : ∀ b ∈ r, b.t ≠ t) : delT r t = r := by
  unfold delT
  rw [List.filter_eq_self]
  intro b hb
  simpa using h b hb
theorem putL_ins (x : Bl) : ∀ T : List Bl, Sorted T → putL x false T = insT T x
  | [], _ => rfl
  | y :: r, h => by
    obtain ⟨h1, h2⟩ := List.pairwise_cons.1 h
    have ih := putL_ins x r h2
    unfold putL
    rw [insT]
    by_cases hl : x.t.less y.t = true
    · have hne := less_ne hl
      rw [if_pos ⟨rfl, hl⟩, if_neg (fun e => hne e.symm), if_neg hne, if_pos hl, putL_del, del_all (fun b hb => (less_ne (less_trans hl (h1 b hb))).symm)]
    · rw [if_neg (fun hx => hl hx.2)]
      by_cases he : y.t = x.t
      · rw [if_pos he, if_pos he.symm, if_neg (by simp), putL_del, del_all (fun b hb => by rw [← he]; exact (less_ne (h1 b hb)).symm)]
      · rw [if_neg he, if_neg (fun e => he e.symm), if_neg hl, ih]
theorem putL_patch (x : Bl) (T : List Bl) (h : Sorted T) : putL x (decide (x.s.size = 0)) T = patch1 T x := by
  unfold patch1
  by_cases hz : x.s.size = 0
  · rw [if_pos hz, decide_eq_true hz, putL_del]
  · rw [if_neg hz, decide_eq_false hz, putL_ins x T h]
theorem eq_tile (a b : Tl) (w : World) : (binOp .eql 91 a.v b.v).run Tryz.prog w = .ok (.bool (decide (a = b))) w := by
  obtain ⟨z, x, y⟩ := a
  obtain ⟨z', x', y'⟩ := b
  unfold Tl.v
  by_cases h1 : z = z'
  · subst h1
    by_cases h2 : x = x'
    · subst h2
      by_cases h3 : y = y'
      · subst h3
        go_simp
      · go_simp
    · go_simp
  · go_simp
theorem run_bin {P : Program} {o : Oper} {a : Act} {w : World} {op : BinOp} {t u : TypeId} {x y : Operand} {vx vy r : Value} (ho : o.op = .binOp op t x y u) (hx : a.eval x = vx) (hy : a.eval y = vy) (hg : (eqGuard op t x y vx vy).run P w = .ok () w) (hr : (binOp op t vx vy).run P w = .ok r w) : (execOp a.eval o).run P w = .ok (.value r) w := by
  unfold execOp
  simp only [ho, hx, hy, Sem.run_bind, Sem.run_pure, Result.andThen_ok, hg, hr]
theorem eq_guard (a b : Tl) (x y : Operand) (w : World) : (eqGuard .eql 91 x y a.v b.v).run Tryz.prog w = .ok () w := by kernel_rfl
structure UInv (w wr : World) (bx : Nat) (x : Bl) (v : Value) (l : List Bl) : Prop where
  h : wr.heap[bx]? = some (.cells #[.int .i64 x.t.z, .int .i64 x.t.x, .int .i64 x.t.y] 91 (0, 0))
  own : wr.ownsRow w.heap.size 93 4 v l.length (l.flatMap Bl.cells)
  bel : Below w.heap.size w wr
theorem UInv.c0 {w wr : World} {bx : Nat} {x : Bl} {v : Value} {l : List Bl} (h : UInv w wr bx x v l) : wr.cell? ⟨bx, 0, none⟩ = some (.int .i64 x.t.z) := cell_of_row wr _ 0 _ _ _ h.h
theorem UInv.c1 {w wr : World} {bx : Nat} {x : Bl} {v : Value} {l : List Bl} (h : UInv w wr bx x v l) : wr.cell? ⟨bx, 1, none⟩ = some (.int .i64 x.t.x) := cell_of_row wr _ 1 _ _ _ h.h
theorem UInv.c2 {w wr : World} {bx : Nat} {x : Bl} {v : Value} {l : List Bl} (h : UInv w wr bx x v l) : wr.cell? ⟨bx, 2, none⟩ = some (.int .i64 x.t.y) := cell_of_row wr _ 2 _ _ _ h.h
theorem UInv.rg {w wr : World} {bx : Nat} {x : Bl} {v : Value} {l : List Bl} (h : UInv w wr bx x v l) : wr.rangeAt bx 0 x.t.cells := by
  intro j u hj
  rw [Nat.zero_add, cell_of_row wr _ j _ _ _ h.h, ← hj]
  simp [Tl.cells]
theorem UInv.below {w wr w' : World} {bx : Nat} {x : Bl} {v : Value} {l : List Bl} (h : UInv w wr bx x v l) (b : Below wr.heap.size wr w') : UInv w w' bx x v l :=
  ⟨(b.block _ (lt_of_heap h.h)).trans h.h, (Fr.of_below b Nowhere).owns h.own (fun _ _ h => h), h.bel.trans (b.mono h.bel.size)⟩
theorem UInv.push {w wr w' : World} {bx : Nat} {x : Bl} {v v' : Value} {l : List Bl} (h : UInv w wr bx x v l) (y : Bl)
    (ho : w'.ownsRow w.heap.size 93 4 v' (l.length + 1) (l.flatMap Bl.cells ++ y.cells)) (hg : wr.grownBy w' v.ownBlock) : UInv w w' bx x v' (l ++ [y]) := by
  have f : Fr wr w' (fun k => v.ownBlock = some k) := Fr.grown hg (fun k hk _ => hk)
  refine ⟨f.heap h.h (fun e => own_ne h.own h.h (by decide) e rfl), ?_, h.bel.grown hg h.bel.size (fun j hj => (own_base' h.own hj).1)⟩
  have e : (l ++ [y]).flatMap Bl.cells = l.flatMap Bl.cells ++ y.cells := by simp
  rw [e, List.length_append]; exact ho
set_option maxHeartbeats 4000000 in
set_option maxRecDepth 100000 in
theorem RPut33_any (v : Value) (T : List Bl) (x : Bl) (w : World) (h : BlobsAt w v T) (hl : T.length ≤ 100000000) :
    Calls Tryz.prog 90 #[v, x.t.v, .string x.s] w fun e w' => ∃ v', e = .returned v' ∧ w'.ownsRow w.heap.size 93 4 v' (putL x (decide (x.s.size = 0)) T).length ((putL x (decide (x.s.size = 0)) T).flatMap Bl.cells) ∧ Below w.heap.size w w' := by
  obtain ⟨ao, c, rfl, hne⟩ := h.sl
  have H := Lib.hid h
  have HNE := Lib.hid hne
  clear h hne
  have hse : x.s.toList.isEmpty = decide (x.s.size = 0) := empt x.s
  obtain ⟨d0, hd0⟩ : ∃ d, decide (x.s.size = 0) = d := ⟨_, rfl⟩
  rw [hd0] at hse ⊢
  clear hd0
  unfold Tl.v
  go_enter Tryz.func90, Tryz.ntmps90
  go_wp2_with fail
  have g0 := heap_alloc_new w (.cells #[.int .i64 x.t.z, .int .i64 x.t.x, .int .i64 x.t.y] 91)
  have g1 := Below.heap_alloc (w.alloc (.cells #[.int .i64 x.t.z, .int .i64 x.t.x, .int .i64 x.t.y] 91)) (.cells #[] 93) w.heap.size (by simp)
  rw [g0] at g1
  have g2 := heap_alloc_new (w.alloc (.cells #[.int .i64 x.t.z, .int .i64 x.t.x, .int .i64 x.t.y] 91)) (.cells #[] 93)
  simp only [World.size_alloc] at g2
  have b1 := (Below.refl w.heap.size w).alloc (Nat.le_refl _) (.cells #[.int .i64 x.t.z, .int .i64 x.t.x, .int .i64 x.t.y] 91)
  have I1 : Hid (UInv w ((w.alloc (.cells #[.int .i64 x.t.z, .int .i64 x.t.x, .int .i64 x.t.y] 91)).alloc (.cells #[] 93)) w.heap.size x (.slice (some ⟨w.heap.size + 1, 0, none⟩) 0 0) []) :=
    ⟨g1, ⟨rfl, .inr ⟨w.heap.size + 1, 0, #[], rfl, by omega, g2, by simp, by unfold maxLen; omega, rfl, by simp⟩⟩, b1.alloc b1.size _⟩
  clear g0 g1 g2 b1
  go_loopw [7, 8, 9] (fun ov dv iv wr => ∃ (i : Nat) (d : Bool) (acc : List Bl), iv = .int .i64 i ∧ dv = .bool d ∧ i ≤ T.length ∧ acc.length ≤ 2 * i + 1 ∧ Hid (putL x d0 T = acc ++ putL x d (T.drop i)) ∧ Hid (UInv w wr w.heap.size x ov acc)) (fun _ _ iv _ => T.length - (intOf iv).toNat)
  case atStart => exact ⟨0, d0, [], rfl, rfl, by omega, by simp, rfl, I1.out⟩
  case round =>
    obtain ⟨i, d, acc, rfl, rfl, hi, hacc, hP, hI⟩ := hrel
    by_cases hic : i < T.length
    · have hic' : (i : Int) < (T.length : Int) := by omega
      obtain ⟨b, o, rfl⟩ := HNE.out (by intro h; subst h; simp at hic)
      have Hr := Lib.hid (H.out.fr (Fr.of_below hI.out.bel Nowhere) (fun _ _ h => h))
      have hP2 := hP.out
      rw [List.drop_eq_getElem_cons hic] at hP2
      have HN := Lib.hid (Hr.out.nth i hic)
      have HYN0 : ∀ w', BlobsAt w' (.slice (some ⟨b, o, none⟩) T.length c) T → w'.rangeAt b (o + i * 4) (T[i]).cells := fun w' h => h.nth i hic
      have HYN := Lib.hid HYN0
      clear HYN0
      generalize T[i] = y at *
      have HP := Lib.hid hP2
      have hy := range4 HN.out
      obtain ⟨y0, y1, y2, y3⟩ := hy
      have x0 := hI.out.c0
      have x1 := hI.out.c1
      have x2 := hI.out.c2
      clear hP hP2
      cases d with
      | true =>
        go_wp2_with fail
        go_quiet (fail)
        have I2 : Hid (UInv w (wr.drewN nq) w.heap.size x u7 acc) := ⟨hI.out.h, hI.out.own, (below_drewN hI.out.bel nq)⟩
        have RGY : (wr.drewN nq).drew.rangeAt b (o + i * 4) y.cells := HN.out
        have HSTEP : Hid (putL x true (y :: T.drop (i + 1)) = if y.t = x.t then putL x true (T.drop (i + 1)) else y :: putL x true (T.drop (i + 1))) := by
          show _ = _
          rw [putL, if_neg (by simp)]
          simp
        clear y0 y1 y2 y3 x0 x1 x2
        generalize wr.drewN nq = w2 at *
        go_wp2_with fail
        have HSS : Hid (UInv w w2.drew w.heap.size x _ _ ∧ w2.drew.rangeAt b (o + i * 4) y.cells) := ⟨I2.out.below (Below.refl _ _).drew, RGY⟩
        refine region_seq (fun w' => w'.rangeAt w.heap.size 0 x.t.cells ∧ w'.rangeAt b (o + i * 4) y.cells) []
          [(.p, 0), (.p, 1), (.p, 2), (.p, 3), (.q, 4), (.q, 5), (.p, 6)] (by kernel_rfl) (by kernel_rfl) (by kernel_rfl) (by kernel_rfl) (fun d v c a w h => by cases d <;> exact h) ?_
        have hS : w2.drew.rangeAt w.heap.size 0 x.t.cells ∧ w2.drew.rangeAt b (o + i * 4) y.cells := ⟨HSS.out.1.rg, HSS.out.2⟩
        (refine seq_p (N := some 36) rfl rfl (by rfl) ?_ (fun w' => ?_) ?_
         rotate_left
         · go_simp
           with_reducible rfl
         simp only [Act.put, List.setIfInBounds_toArray, List.set_cons_zero, List.set_cons_succ])
        (refine seq_p (N := some 37) rfl rfl (by rfl) ?_ (fun w' => ?_) ?_
         rotate_left
         · go_simp
           with_reducible rfl
         simp only [Act.put, List.setIfInBounds_toArray, List.set_cons_zero, List.set_cons_succ])
        (refine seq_p (N := some 38) rfl rfl (by rfl) ?_ (fun w' => ?_) ?_
         rotate_left
         · go_simp
           with_reducible rfl
         simp only [Act.put, List.setIfInBounds_toArray, List.set_cons_zero, List.set_cons_succ])
        (refine seq_p (N := some 39) rfl rfl (by rfl) ?_ (fun w' => ?_) ?_
         rotate_left
         · go_simp
           with_reducible rfl
         simp only [Act.put, List.setIfInBounds_toArray, List.set_cons_zero, List.set_cons_succ])
        (refine seq_q (N := some 40) rfl rfl (by rfl) y.t.v ?_ hS ?_
         · rintro w' ⟨s1, s2⟩
           exact run_ld rfl rfl (load_tile (range_tile s2))
         simp only [Act.put, List.setIfInBounds_toArray, List.set_cons_zero, List.set_cons_succ])
        (refine seq_q (N := some 41) rfl rfl (by rfl) x.t.v ?_ hS ?_
         · rintro w' ⟨s1, s2⟩
           exact run_ld rfl rfl (load_tile s1)
         simp only [Act.put, List.setIfInBounds_toArray, List.set_cons_zero, List.set_cons_succ])
        (refine seq_p (N := some 42) rfl rfl (by rfl) (.bool (decide (y.t = x.t))) (fun w' => run_bin rfl rfl rfl (eq_guard _ _ _ _ _) (eq_tile _ _ _)) ?_
         simp only [Act.put, List.setIfInBounds_toArray, List.set_cons_zero, List.set_cons_succ])
        refine seq_nil ?_

        have I3 := Lib.hid HSS.out.1
        have RY := Lib.hid HSS.out.2
        clear HSS hS RGY hI I2
        generalize w2.drew = w3 at *
        have hy := range4 RY.out
        obtain ⟨y0, y1, y2, y3⟩ := hy
        by_cases hyx : y.t = x.t
        · have HP3 : Hid (putL x d0 T = acc ++ putL x true (T.drop (i + 1))) := by show _ = _; rw [HP.out, HSTEP.out, if_pos hyx]
          have hdec : decide (y.t = x.t) = true := decide_eq_true hyx
          rw [hdec]
          clear hyx hdec HP HSTEP
          go_wp2_with fail
          go_roundw
          case rel => exact ⟨i + 1, true, acc, by go_num, rfl, by omega, by omega, HP3.out, I3.out⟩
          case measure => simp [intOf]; omega
        · have HP3 : Hid (putL x d0 T = (acc ++ [y]) ++ putL x true (T.drop (i + 1))) := by show _ = _; rw [HP.out, HSTEP.out, if_neg hyx, List.append_assoc]; rfl
          have hdec : decide (y.t = x.t) = false := decide_eq_false hyx
          rw [hdec]
          clear hyx hdec HP HSTEP
          go_wp2_with (
          at_builtin
          refine app1 rfl _ _ 35 93 (.agg #[.int .i64 0, .int .i64 0, .int .i64 0, .string ⟨#[]⟩]) 4 40 w.heap.size [.int .i64 y.t.z, .int .i64 y.t.x, .int .i64 y.t.y, .string y.s] rfl Tryz.underlying35 info_blob rfl (by omega) (by omega) _ acc.length (acc.flatMap Bl.cells) (by rfl) (by simp [Act.eval]) rfl (by intro u hu; simp at hu; rcases hu with rfl | rfl | rfl | rfl <;> rfl) I3.out.own I3.out.bel.size (by omega) ?_
          intro v5 w5 hown hg hat
          have I5 := Lib.hid (I3.out.push y hown hg)
          clear hown hg hat)
          go_roundw
          case rel => exact ⟨i + 1, true, acc ++ [y], by go_num, rfl, by omega, by simp; omega, HP3.out, I5.out⟩
          case measure => simp [intOf]; omega
      | false =>
        clear y0 y1 y2 y3 x0 x1 x2
        go_wp2_with fail
        refine region_seq (fun w' => w'.rangeAt w.heap.size 0 x.t.cells ∧ w'.rangeAt b (o + i * 4) y.cells) []
          [(.p, 0), (.p, 1), (.p, 2), (.q, 3), (.p, 4), (.p, 5), (.p, 6), (.p, 7), (.q, 8), (.l, 9), (.p, 10)] (by kernel_rfl) (by kernel_rfl) (by kernel_rfl) (by kernel_rfl) (fun d v c a w h => by cases d <;> exact h) ?_
        have hS : wr.drew.rangeAt w.heap.size 0 x.t.cells ∧ wr.drew.rangeAt b (o + i * 4) y.cells := ⟨hI.out.rg, HN.out⟩
        (refine seq_p (N := some 19) rfl rfl (by rfl) ?_ (fun w' => ?_) ?_
         rotate_left
         · go_simp
           with_reducible rfl
         simp only [Act.put, List.setIfInBounds_toArray, List.set_cons_zero, List.set_cons_succ])
        (refine seq_p (N := some 20) rfl rfl (by rfl) ?_ (fun w' => ?_) ?_
         rotate_left
         · go_simp
           with_reducible rfl
         simp only [Act.put, List.setIfInBounds_toArray, List.set_cons_zero, List.set_cons_succ])
        (refine seq_p (N := some 21) rfl rfl (by rfl) ?_ (fun w' => ?_) ?_
         rotate_left
         · go_simp
           with_reducible rfl
         simp only [Act.put, List.setIfInBounds_toArray, List.set_cons_zero, List.set_cons_succ])
        (refine seq_q (N := some 22) rfl rfl (by rfl) x.t.v ?_ hS ?_
         · rintro w' ⟨s1, s2⟩
           exact run_ld rfl rfl (load_tile s1)
         simp only [Act.put, List.setIfInBounds_toArray, List.set_cons_zero, List.set_cons_succ])
        (refine seq_p (N := some 23) rfl rfl (by rfl) ?_ (fun w' => ?_) ?_
         rotate_left
         · go_simp
           with_reducible rfl
         simp only [Act.put, List.setIfInBounds_toArray, List.set_cons_zero, List.set_cons_succ])
        (refine seq_p (N := some 24) rfl rfl (by rfl) ?_ (fun w' => ?_) ?_
         rotate_left
         · go_simp
           with_reducible rfl
         simp only [Act.put, List.setIfInBounds_toArray, List.set_cons_zero, List.set_cons_succ])
        (refine seq_p (N := some 25) rfl rfl (by rfl) ?_ (fun w' => ?_) ?_
         rotate_left
         · go_simp
           with_reducible rfl
         simp only [Act.put, List.setIfInBounds_toArray, List.set_cons_zero, List.set_cons_succ])
        (refine seq_p (N := some 26) rfl rfl (by rfl) ?_ (fun w' => ?_) ?_
         rotate_left
         · go_simp
           with_reducible rfl
         simp only [Act.put, List.setIfInBounds_toArray, List.set_cons_zero, List.set_cons_succ])
        (refine seq_q (N := some 27) rfl rfl (by rfl) y.t.v ?_ hS ?_
         · rintro w' ⟨s1, s2⟩
           exact run_ld rfl rfl (load_tile (range_tile s2))
         simp only [Act.put, List.setIfInBounds_toArray, List.set_cons_zero, List.set_cons_succ])
        refine seq_l rfl (by rfl) (wp_cl (N := some 28) (f := 88) (vs := #[x.t.v, y.t.v]) rfl rfl (by simp [Act.eval]) (callF Tryz.func88 rfl (by decide) _ _) ?_)
        refine (RLess_any x.t y.t wr.drew).mono ?_
        rintro e w2 ⟨rfl, b2⟩
        have b2' : Below wr.heap.size wr w2 := ((Below.refl wr.heap.size wr).drew).trans (by exact b2)
        have I2 := Lib.hid (hI.out.below b2')
        have N2 := Lib.hid (rangeAt_fr HN.out (Fr.of_below b2' Nowhere) (fun h => h))
        refine ⟨_, rfl, ?_⟩
        simp only [Act.put, List.setIfInBounds_toArray, List.set_cons_zero, List.set_cons_succ]
        refine ⟨fun _ => ⟨I2.out.rg, N2.out⟩, ?_⟩
        clear b2 b2' hS hI HN Hr
        have x0 := I2.out.c0
        have x1 := I2.out.c1
        have x2 := I2.out.c2
        rcases hls : x.t.less y.t with _ | _
        · have HSTEP : Hid (putL x false (y :: T.drop (i + 1)) = if y.t = x.t then x :: putL x true (T.drop (i + 1)) else y :: putL x false (T.drop (i + 1))) := by
            show _ = _
            rw [putL, if_neg (by simp [hls])]
            simp
          (refine seq_p (N := some 29) rfl rfl (by rfl) ?_ (fun w' => ?_) ?_
           rotate_left
           · go_simp
             with_reducible rfl
           simp only [Act.put, List.setIfInBounds_toArray, List.set_cons_zero, List.set_cons_succ])
          refine seq_nil ?_
          have HSS : Hid (UInv w w2.drew w.heap.size x _ acc ∧ w2.drew.rangeAt b (o + i * 4) y.cells) := ⟨I2.out.below (Below.refl _ _).drew, N2.out⟩
          go_wp2_with fail
          refine region_seq (fun w' => w'.rangeAt w.heap.size 0 x.t.cells ∧ w'.rangeAt b (o + i * 4) y.cells) []
            [(.p, 0), (.p, 1), (.p, 2), (.p, 3), (.q, 4), (.q, 5), (.p, 6)] (by kernel_rfl) (by kernel_rfl) (by kernel_rfl) (by kernel_rfl) (fun d v c a w h => by cases d <;> exact h) ?_
          have hS : w2.drew.rangeAt w.heap.size 0 x.t.cells ∧ w2.drew.rangeAt b (o + i * 4) y.cells := ⟨HSS.out.1.rg, HSS.out.2⟩
          (refine seq_p (N := some 36) rfl rfl (by rfl) ?_ (fun w' => ?_) ?_
           rotate_left
           · go_simp
             with_reducible rfl
           simp only [Act.put, List.setIfInBounds_toArray, List.set_cons_zero, List.set_cons_succ])
          (refine seq_p (N := some 37) rfl rfl (by rfl) ?_ (fun w' => ?_) ?_
           rotate_left
           · go_simp
             with_reducible rfl
           simp only [Act.put, List.setIfInBounds_toArray, List.set_cons_zero, List.set_cons_succ])
          (refine seq_p (N := some 38) rfl rfl (by rfl) ?_ (fun w' => ?_) ?_
           rotate_left
           · go_simp
             with_reducible rfl
           simp only [Act.put, List.setIfInBounds_toArray, List.set_cons_zero, List.set_cons_succ])
          (refine seq_p (N := some 39) rfl rfl (by rfl) ?_ (fun w' => ?_) ?_
           rotate_left
           · go_simp
             with_reducible rfl
           simp only [Act.put, List.setIfInBounds_toArray, List.set_cons_zero, List.set_cons_succ])
          (refine seq_q (N := some 40) rfl rfl (by rfl) y.t.v ?_ hS ?_
           · rintro w' ⟨s1, s2⟩
             exact run_ld rfl rfl (load_tile (range_tile s2))
           simp only [Act.put, List.setIfInBounds_toArray, List.set_cons_zero, List.set_cons_succ])
          (refine seq_q (N := some 41) rfl rfl (by rfl) x.t.v ?_ hS ?_
           · rintro w' ⟨s1, s2⟩
             exact run_ld rfl rfl (load_tile s1)
           simp only [Act.put, List.setIfInBounds_toArray, List.set_cons_zero, List.set_cons_succ])
          (refine seq_p (N := some 42) rfl rfl (by rfl) (.bool (decide (y.t = x.t))) (fun w' => run_bin rfl rfl rfl (eq_guard _ _ _ _ _) (eq_tile _ _ _)) ?_
           simp only [Act.put, List.setIfInBounds_toArray, List.set_cons_zero, List.set_cons_succ])
          refine seq_nil ?_
          have I3 := Lib.hid HSS.out.1
          have RY := Lib.hid HSS.out.2
          clear HSS hS I2 N2 x0 x1 x2
          generalize w2.drew = w3 at *
          obtain ⟨y0, y1, y2, y3⟩ := range4 RY.out
          have x0 := I3.out.c0
          have x1 := I3.out.c1
          have x2 := I3.out.c2
          by_cases hyx : y.t = x.t
          · have HP3 : Hid (putL x d0 T = (acc ++ [x]) ++ putL x true (T.drop (i + 1))) := by show _ = _; rw [HP.out, HSTEP.out, if_pos hyx, List.append_assoc]; rfl
            have hdec : decide (y.t = x.t) = true := decide_eq_true hyx
            rw [hdec]
            clear hyx hdec HP HSTEP hls
            go_wp2_with (
              at_builtin
              refine app1 rfl _ _ 35 93 (.agg #[.int .i64 0, .int .i64 0, .int .i64 0, .string ⟨#[]⟩]) 4 40 w.heap.size [.int .i64 x.t.z, .int .i64 x.t.x, .int .i64 x.t.y, .string x.s] rfl Tryz.underlying35 info_blob rfl (by omega) (by omega) _ (acc).length ((acc).flatMap Bl.cells) (by rfl) (by simp [Act.eval]) rfl (by intro u hu; simp at hu; rcases hu with rfl | rfl | rfl | rfl <;> rfl) I3.out.own I3.out.bel.size (by first | omega | (simp; omega)) ?_
              intro v5 w5 hown hg hat
              have I5 := Lib.hid (I3.out.push x hown hg)
              clear hown hg hat)
            go_roundw
            case rel => exact ⟨i + 1, true, acc ++ [x], by go_num, rfl, by omega, by simp; omega, HP3.out, I5.out⟩
            case measure => simp [intOf]; omega
          · have HP3 : Hid (putL x d0 T = (acc ++ [y]) ++ putL x false (T.drop (i + 1))) := by show _ = _; rw [HP.out, HSTEP.out, if_neg hyx, List.append_assoc]; rfl
            have hdec : decide (y.t = x.t) = false := decide_eq_false hyx
            rw [hdec]
            clear hyx hdec HP HSTEP hls
            go_wp2_with (
              at_builtin
              refine app1 rfl _ _ 35 93 (.agg #[.int .i64 0, .int .i64 0, .int .i64 0, .string ⟨#[]⟩]) 4 40 w.heap.size [.int .i64 y.t.z, .int .i64 y.t.x, .int .i64 y.t.y, .string y.s] rfl Tryz.underlying35 info_blob rfl (by omega) (by omega) _ (acc).length ((acc).flatMap Bl.cells) (by rfl) (by simp [Act.eval]) rfl (by intro u hu; simp at hu; rcases hu with rfl | rfl | rfl | rfl <;> rfl) I3.out.own I3.out.bel.size (by first | omega | (simp; omega)) ?_
              intro v5 w5 hown hg hat
              have I5 := Lib.hid (I3.out.push y hown hg)
              clear hown hg hat)
            go_roundw
            case rel => exact ⟨i + 1, false, acc ++ [y], by go_num, rfl, by omega, by simp; omega, HP3.out, I5.out⟩
            case measure => simp [intOf]; omega
        · have hyx : ¬ y.t = x.t := fun e => less_ne hls e.symm
          have HSTEP : Hid (putL x false (y :: T.drop (i + 1)) = x :: y :: putL x true (T.drop (i + 1))) := by
            show _ = _
            rw [putL, if_pos ⟨rfl, hls⟩, if_neg hyx]
          (refine seq_p (N := some 29) rfl rfl (by rfl) ?_ (fun w' => ?_) ?_
           rotate_left
           · go_simp
             with_reducible rfl
           simp only [Act.put, List.setIfInBounds_toArray, List.set_cons_zero, List.set_cons_succ])
          refine seq_nil ?_
          go_wp2_with (
            at_builtin
            refine app1 rfl _ _ 35 93 (.agg #[.int .i64 0, .int .i64 0, .int .i64 0, .string ⟨#[]⟩]) 4 40 w.heap.size [.int .i64 x.t.z, .int .i64 x.t.x, .int .i64 x.t.y, .string x.s] rfl Tryz.underlying35 info_blob rfl (by omega) (by omega) _ (acc).length ((acc).flatMap Bl.cells) (by rfl) (by simp [Act.eval]) rfl (by intro u hu; simp at hu; rcases hu with rfl | rfl | rfl | rfl <;> rfl) I2.out.own I2.out.bel.size (by first | omega | (simp; omega)) ?_
            intro v4 w4 hown hg hat
            have I4 := Lib.hid (I2.out.push x hown hg)
            clear hown hg hat
            have N4 := Lib.hid (H.out.fr (Fr.of_below I4.out.bel Nowhere) (fun _ _ h => h)))
          have RY4 : w4.rangeAt b (o + i * 4) y.cells := HYN.out w4 N4.out
          have HSS : Hid (UInv w w4.drew w.heap.size x _ (acc ++ [x]) ∧ w4.drew.rangeAt b (o + i * 4) y.cells) := ⟨I4.out.below (Below.refl _ _).drew, RY4⟩
          clear x0 x1 x2
          refine region_seq (fun w' => w'.rangeAt w.heap.size 0 x.t.cells ∧ w'.rangeAt b (o + i * 4) y.cells) []
            [(.p, 0), (.p, 1), (.p, 2), (.p, 3), (.q, 4), (.q, 5), (.p, 6)] (by kernel_rfl) (by kernel_rfl) (by kernel_rfl) (by kernel_rfl) (fun d v c a w h => by cases d <;> exact h) ?_
          have hS : w4.drew.rangeAt w.heap.size 0 x.t.cells ∧ w4.drew.rangeAt b (o + i * 4) y.cells := ⟨HSS.out.1.rg, HSS.out.2⟩
          (refine seq_p (N := some 36) rfl rfl (by rfl) ?_ (fun w' => ?_) ?_
           rotate_left
           · go_simp
             with_reducible rfl
           simp only [Act.put, List.setIfInBounds_toArray, List.set_cons_zero, List.set_cons_succ])
          (refine seq_p (N := some 37) rfl rfl (by rfl) ?_ (fun w' => ?_) ?_
           rotate_left
           · go_simp
             with_reducible rfl
           simp only [Act.put, List.setIfInBounds_toArray, List.set_cons_zero, List.set_cons_succ])
          (refine seq_p (N := some 38) rfl rfl (by rfl) ?_ (fun w' => ?_) ?_
           rotate_left
           · go_simp
             with_reducible rfl
           simp only [Act.put, List.setIfInBounds_toArray, List.set_cons_zero, List.set_cons_succ])
          (refine seq_p (N := some 39) rfl rfl (by rfl) ?_ (fun w' => ?_) ?_
           rotate_left
           · go_simp
             with_reducible rfl
           simp only [Act.put, List.setIfInBounds_toArray, List.set_cons_zero, List.set_cons_succ])
          (refine seq_q (N := some 40) rfl rfl (by rfl) y.t.v ?_ hS ?_
           · rintro w' ⟨s1, s2⟩
             exact run_ld rfl rfl (load_tile (range_tile s2))
           simp only [Act.put, List.setIfInBounds_toArray, List.set_cons_zero, List.set_cons_succ])
          (refine seq_q (N := some 41) rfl rfl (by rfl) x.t.v ?_ hS ?_
           · rintro w' ⟨s1, s2⟩
             exact run_ld rfl rfl (load_tile s1)
           simp only [Act.put, List.setIfInBounds_toArray, List.set_cons_zero, List.set_cons_succ])
          (refine seq_p (N := some 42) rfl rfl (by rfl) (.bool (decide (y.t = x.t))) (fun w' => run_bin rfl rfl rfl (eq_guard _ _ _ _ _) (eq_tile _ _ _)) ?_
           simp only [Act.put, List.setIfInBounds_toArray, List.set_cons_zero, List.set_cons_succ])
          refine seq_nil ?_
          have I5 := Lib.hid HSS.out.1
          have RY := Lib.hid HSS.out.2
          clear HSS hS I2 N2 I4 N4 RY4
          generalize w4.drew = w5 at *
          obtain ⟨y0, y1, y2, y3⟩ := range4 RY.out
          have HP3 : Hid (putL x d0 T = (acc ++ [x] ++ [y]) ++ putL x true (T.drop (i + 1))) := by show _ = _; rw [HP.out, HSTEP.out]; simp
          have hdec : decide (y.t = x.t) = false := decide_eq_false hyx
          rw [hdec]
          clear hyx hdec HP HSTEP hls
          go_wp2_with (
            at_builtin
            refine app1 rfl _ _ 35 93 (.agg #[.int .i64 0, .int .i64 0, .int .i64 0, .string ⟨#[]⟩]) 4 40 w.heap.size [.int .i64 y.t.z, .int .i64 y.t.x, .int .i64 y.t.y, .string y.s] rfl Tryz.underlying35 info_blob rfl (by omega) (by omega) _ (acc ++ [x]).length ((acc ++ [x]).flatMap Bl.cells) (by rfl) (by simp [Act.eval]) rfl (by intro u hu; simp at hu; rcases hu with rfl | rfl | rfl | rfl <;> rfl) I5.out.own I5.out.bel.size (by first | omega | (simp; omega)) ?_
            intro v6 w6 hown hg hat
            have I6 := Lib.hid (I5.out.push y hown hg)
            clear hown hg hat)
          go_roundw
          case rel => exact ⟨i + 1, true, acc ++ [x] ++ [y], by go_num, rfl, by omega, by simp; omega, HP3.out, I6.out⟩
          case measure => simp [intOf]; omega
    · have hic' : ¬ (i : Int) < (T.length : Int) := by omega
      obtain rfl : i = T.length := by omega
      have hP2 := hP.out
      rw [List.drop_length] at hP2
      have x0 := hI.out.c0
      have x1 := hI.out.c1
      have x2 := hI.out.c2
      cases d with
      | true =>
        have HP : Hid (putL x d0 T = acc) := by show _ = _; rw [hP2]; simp [putL]
        clear hP hP2
        go_wp2_with fail
        go_ret
        rw [HP.out]
        exact ⟨_, rfl, hI.out.own, hI.out.bel⟩
      | false =>
        have HP : Hid (putL x d0 T = acc ++ [x]) := by show _ = _; rw [hP2]; simp [putL]
        clear hP hP2
        go_wp2_with (
          at_builtin
          refine app1 rfl _ _ 35 93 (.agg #[.int .i64 0, .int .i64 0, .int .i64 0, .string ⟨#[]⟩]) 4 40 w.heap.size [.int .i64 x.t.z, .int .i64 x.t.x, .int .i64 x.t.y, .string x.s] rfl Tryz.underlying35 info_blob rfl (by omega) (by omega) _ (acc).length ((acc).flatMap Bl.cells) (by rfl) (by simp [Act.eval]) rfl (by intro u hu; simp at hu; rcases hu with rfl | rfl | rfl | rfl <;> rfl) hI.out.own hI.out.bel.size (by first | omega | (simp; omega)) ?_
          intro v5 w5 hown hg hat
          have I5 := Lib.hid (hI.out.push x hown hg)
          clear hown hg hat)
        go_ret
        rw [HP.out]
        exact ⟨_, rfl, I5.out.own, I5.out.bel⟩
end Go.Proofs.YtjflcpkmoamijaaGreatDoor
