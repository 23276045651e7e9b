import Derived.Test.YtjflcpkmoamijaaGreatDoorQb
namespace Go.Proofs.YtjflcpkmoamijaaGreatDoor
open Go.RowKit
set_option linter.unusedVariables false
set_option linter.unusedSimpArgs false
set_option linter.unnecessarySimpa false

/-! ### The reference's scan of a region -/
theorem catS_succ (D : Dev) (i k : Nat) : catS D i (k + 1) = catS D i k ++ blkS D (i + k) := by
  apply bytes_ext
  unfold catS blkS
  rw [catL_succ]
  simp [ByteArray.toList_data_append]
theorem ret_scan {fn : Func} {R : Ending → World → Prop} {a : Act} {w : World} {c : Tmp} (hres : fn.results = #[.cell c 138]) (b : Nat) (hc : a.tmps.getD c undef = .pointer (some ⟨b, 0, none⟩)) (ao : Option Addr) (n cp : Nat) (u e : Int)
    (hg : w.heap[b]? = some (.cells #[.slice ao n cp, .int .i64 u, .int .i64 e] 138 (0, 0))) (hd : a.defers = []) (hR : R (.returned (.agg #[.slice ao n cp, .int .i64 u, .int .i64 e])) w) : bodyPost Tryz.prog fn R .ret a w := by
  have hl := run_loadVar_row (P := Tryz.prog) w b 138 138 _ _ _ hg Tryz.underlying138 rfl (by kernel_rfl)
  refine bodyPost_ret (v := .agg #[.slice ao n cp, .int .i64 u, .int .i64 e]) ?_ hd hR
  unfold results
  rw [hres]
  have hc' : a.tmps[c]?.getD undef = .pointer (some ⟨b, 0, none⟩) := by simpa using hc
  simp [hc', asAddr, hl]
structure ScI (w wr : World) (rb xb : Nat) (vl : Value) (u : Nat) (l : List ByteArray) : Prop where
  hr : wr.heap[rb]? = some (.cells #[.slice none 0 0, .int .i64 0, .int .i64 0] 138 (0, 0))
  hx : wr.heap[xb]? = some (.cells #[vl, .int .i64 u, .int .i64 0] 138 (0, 0))
  own : wr.ownsRow w.heap.size 9 1 vl l.length (l.map .string)
  bel : Below w.heap.size w wr
  b1 : w.heap.size ≤ rb
  b2 : w.heap.size ≤ xb
  ne : rb ≠ xb
theorem ScI.c0 {w wr : World} {rb xb : Nat} {vl : Value} {u : Nat} {l : List ByteArray} (h : ScI w wr rb xb vl u l) : wr.cell? ⟨xb, 0, none⟩ = some vl := cell_of_row wr _ 0 _ _ _ h.hx
theorem ScI.c1 {w wr : World} {rb xb : Nat} {vl : Value} {u : Nat} {l : List ByteArray} (h : ScI w wr rb xb vl u l) : wr.cell? ⟨xb, 1, none⟩ = some (.int .i64 u) := cell_of_row wr _ 1 _ _ _ h.hx
theorem ScI.c2 {w wr : World} {rb xb : Nat} {vl : Value} {u : Nat} {l : List ByteArray} (h : ScI w wr rb xb vl u l) : wr.cell? ⟨xb, 2, none⟩ = some (.int .i64 0) := cell_of_row wr _ 2 _ _ _ h.hx
theorem ScI.r0 {w wr : World} {rb xb : Nat} {vl : Value} {u : Nat} {l : List ByteArray} (h : ScI w wr rb xb vl u l) : wr.cell? ⟨rb, 0, none⟩ = some (.slice none 0 0) := cell_of_row wr _ 0 _ _ _ h.hr
theorem ScI.r1 {w wr : World} {rb xb : Nat} {vl : Value} {u : Nat} {l : List ByteArray} (h : ScI w wr rb xb vl u l) : wr.cell? ⟨rb, 1, none⟩ = some (.int .i64 0) := cell_of_row wr _ 1 _ _ _ h.hr
theorem ScI.r2 {w wr : World} {rb xb : Nat} {vl : Value} {u : Nat} {l : List ByteArray} (h : ScI w wr rb xb vl u l) : wr.cell? ⟨rb, 2, none⟩ = some (.int .i64 0) := cell_of_row wr _ 2 _ _ _ h.hr
theorem ScI.fx {w wr : World} {rb xb : Nat} {vl : Value} {u : Nat} {l : List ByteArray} (h : ScI w wr rb xb vl u l) (i : Nat) : wr.frozen? ⟨xb, i, none⟩ = false := frozen_of_row wr _ i _ _ h.hx
theorem ScI.fr {w wr : World} {rb xb : Nat} {vl : Value} {u : Nat} {l : List ByteArray} (h : ScI w wr rb xb vl u l) (i : Nat) : wr.frozen? ⟨rb, i, none⟩ = false := frozen_of_row wr _ i _ _ h.hr
theorem ScI.below {w wr w' : World} {rb xb : Nat} {vl : Value} {u : Nat} {l : List ByteArray} (h : ScI w wr rb xb vl u l) (b : Below wr.heap.size wr w') : ScI w w' rb xb vl u l :=
  ⟨(b.block _ (lt_of_heap h.hr)).trans h.hr, (b.block _ (lt_of_heap h.hx)).trans h.hx, (Fr.of_below b Nowhere).owns h.own (fun _ _ h => h), h.bel.trans (b.mono h.bel.size), h.b1, h.b2, h.ne⟩
theorem ScI.setr {w wr : World} {rb xb : Nat} {vl : Value} {u : Nat} {l : List ByteArray} (h : ScI w wr rb xb vl u l) (v0 v1 v2 : Value) :
    (((wr.setCell ⟨rb, 0, none⟩ v0).setCell ⟨rb, 1, none⟩ v1).setCell ⟨rb, 2, none⟩ v2).ownsRow w.heap.size 9 1 vl l.length (l.map .string) ∧ Below w.heap.size w (((wr.setCell ⟨rb, 0, none⟩ v0).setCell ⟨rb, 1, none⟩ v1).setCell ⟨rb, 2, none⟩ v2) := by
  have f : Fr wr (((wr.setCell ⟨rb, 0, none⟩ v0).setCell ⟨rb, 1, none⟩ v1).setCell ⟨rb, 2, none⟩ v2) (fun k => k = rb) :=
    (((Fr.refl wr (fun k => k = rb)).setCell ⟨rb, 0, none⟩ _ (fun _ => rfl)).setCell ⟨rb, 1, none⟩ _ (fun _ => rfl)).setCell ⟨rb, 2, none⟩ _ (fun _ => rfl)
  exact ⟨f.owns h.own (fun i hi e => own_ne h.own h.hr (by decide) (e ▸ hi) rfl), set3 h.bel h.b1 _ _ _⟩
theorem ScI.used {w wr : World} {rb xb : Nat} {vl : Value} {u : Nat} {l : List ByteArray} (h : ScI w wr rb xb vl u l) (u' : Nat) : ScI w (wr.setCell ⟨xb, 1, none⟩ (.int .i64 u')) rb xb vl u' l := by
  have f : Fr wr (wr.setCell ⟨xb, 1, none⟩ (.int .i64 u')) (fun k => k = xb) := (Fr.refl wr (fun k => k = xb)).setCell ⟨xb, 1, none⟩ _ (fun _ => rfl)
  refine ⟨f.heap h.hr h.ne, ?_, f.owns h.own (fun i hi e => own_ne h.own h.hx (by decide) (e ▸ hi) rfl), h.bel.setCell (p := ⟨xb, 1, none⟩) h.b2 _, h.b1, h.b2, h.ne⟩
  rw [heap_setCell_same wr xb 1 _ _ _ h.hx]; rfl
theorem ScI.push {w wr w' : World} {rb xb : Nat} {vl v' : Value} {u : Nat} {l : List ByteArray} (h : ScI w wr rb xb vl u l) (s : ByteArray)
    (ho : w'.ownsRow w.heap.size 9 1 v' (l.length + 1) (l.map .string ++ [.string s])) (hg : wr.grownBy w' vl.ownBlock) : ScI w (w'.setCell ⟨xb, 0, none⟩ v') rb xb v' u (l ++ [s]) := by
  have f : Fr wr w' (fun k => vl.ownBlock = some k) := Fr.grown hg (fun k hk _ => hk)
  have hx' := f.heap h.hx (fun e => own_ne h.own h.hx (by decide) e rfl)
  have hr' := f.heap h.hr (fun e => own_ne h.own h.hr (by decide) e rfl)
  have f2 : Fr w' (w'.setCell ⟨xb, 0, none⟩ v') (fun k => k = xb) := (Fr.refl w' (fun k => k = xb)).setCell ⟨xb, 0, none⟩ _ (fun _ => rfl)
  refine ⟨f2.heap hr' h.ne, ?_, f2.owns ?_ (fun i hi e => own_ne ho hx' (by decide) (e ▸ hi) rfl), (h.bel.grown hg h.bel.size (fun j hj => (own_base' h.own hj).1)).setCell (p := ⟨xb, 0, none⟩) h.b2 _, h.b1, h.b2, h.ne⟩
  · rw [heap_setCell_same w' xb 0 _ _ _ hx']; rfl
  · rw [List.length_append, List.map_append]; exact ho
theorem wr_used2 (u c : Nat) (h : u + 1 + c ≤ 100000) : IntKind.i64.wrap (IntKind.i64.wrap ((u : Int) + 1) + (c : Int)) = ((u + 1 + c : Nat) : Int) := by
  rw [IntKind.wrap_i64, IntKind.wrap_i64]; omega
theorem numJ_le2 {s : ByteArray} {most n : Nat} (h : numJ s most = some n) : n ≤ most := by
  obtain ⟨_, _, h, _⟩ := numJ_some h
  exact h
set_option maxHeartbeats 2000000 in
set_option maxRecDepth 100000 in
theorem Rscan_any (v : Value) {D : Dev} {ep uu : Nat} {ll : List ByteArray} (w : World) (h : BksAt w v D) (hd : Rd D ep uu ll) :
    Calls Tryz.prog 91 #[v] w fun e w' => ∃ vl, e = .returned (.agg #[vl, .int .i64 uu, .int .i64 0]) ∧ w'.ownsRow w.heap.size 9 1 vl ll.length (ll.map .string) ∧ Below w.heap.size w w' := by
  have hh := hlf_half hd.h5 hd.ht
  have ht := hd.ht
  have hp := parse_iff.1 hd.p
  have HSC := Lib.hid hp.2.2
  have hep := numJ_le2 hp.2.1
  have HD := Lib.hid hd
  have H := Lib.hid h
  have HSZ := Lib.hid (fun i hi => hd.size (i := i) hi)
  have h5 := hd.h5
  obtain ⟨ao, c, rfl⟩ := h.sl
  obtain ⟨b, o, rfl, _⟩ := h.nth (i := 0) (by omega)
  have HE := Lib.hid (fun w h => REpoch_any (.slice (some ⟨b, o, none⟩) D.now.length c) w h hd)
  have HF := Lib.hid (fun w => Rfirst_any (.slice (some ⟨b, o, none⟩) D.now.length c) D ep w ⟨_, _, rfl⟩ (by omega) (by omega) hep)
  have HH : Hid (∀ w, Calls Tryz.prog 95 #[.slice (some ⟨b, o, none⟩) D.now.length c] w fun e w' => e = .returned (.int .i64 (hlf D)) ∧ w' = w) := fun w => RHalf_any _ D.now.length w ⟨_, _, rfl⟩ (by omega) (by omega)
  clear hp h hd
  have hfa := fst0_le (D := D) ep
  generalize fst0 D ep = a at *
  go_enter Tryz.func91, Tryz.ntmps91
  go_wp2_with fail
  have b1 := (Below.refl w.heap.size w).alloc (Nat.le_refl _) (.cells #[.slice none 0 0, .int .i64 0, .int .i64 0] 138)
  have g1 := heap_alloc_new w (.cells #[.slice none 0 0, .int .i64 0, .int .i64 0] 138)
  have H1 := Lib.hid (H.out.below (((Below.refl w.heap.size w).alloc (Nat.le_refl _) (.cells #[.slice none 0 0, .int .i64 0, .int .i64 0] 138))))
  have B1 := Lib.hid b1
  have G1 := Lib.hid g1
  obtain ⟨rb, hrb⟩ : ∃ rb, w.heap.size = rb := ⟨_, rfl⟩
  have hle1 : rb < (w.alloc (.cells #[.slice none 0 0, .int .i64 0, .int .i64 0] 138)).heap.size := by simp; omega
  clear b1 g1
  have HRB := Lib.hid hrb
  rw [hrb] at G1 ⊢
  clear hrb
  generalize w.alloc (.cells #[.slice none 0 0, .int .i64 0, .int .i64 0] 138) = w1 at *
  refine (HE.out w1 H1.out).mono ?_
  rintro e w2 ⟨rfl, b2⟩
  have H2 := Lib.hid (H1.out.below b2)
  have B2 := Lib.hid (B1.out.trans (b2.mono B1.out.size))
  have G2 : Hid (w2.heap[rb]? = some (.cells #[.slice none 0 0, .int .i64 0, .int .i64 0] 138 (0, 0))) := (b2.block _ hle1).trans G1.out
  have hle2 : rb < w2.heap.size := by have := b2.size; omega
  clear b2 H1 B1 G1 HE
  go_wp2_with (first
    | (refine (HF.out _).mono ?_; rintro e w3 ⟨rfl, rfl⟩)
    | (refine (HH.out _).mono ?_; rintro e w4 ⟨rfl, rfl⟩))
  have I0 : Hid (ScI w (w4.alloc (.cells #[.slice none 0 0, .int .i64 0, .int .i64 0] 138)) rb w4.heap.size (.slice none 0 0) 0 []) :=
    ⟨(Below.heap_alloc w4 (.cells #[.slice none 0 0, .int .i64 0, .int .i64 0] 138) rb hle2).trans G2.out, heap_alloc_new w4 _, World.ownsRow_nil _ _ _ _, B2.out.alloc B2.out.size _, by have := HRB.out; omega, B2.out.size, by omega⟩
  obtain ⟨xb, hxb⟩ : ∃ xb, w4.heap.size = xb := ⟨_, rfl⟩
  rw [hxb] at I0 ⊢
  clear hxb hle2 G2 H2 B2 hle1
  generalize w4.alloc (.cells #[.slice none 0 0, .int .i64 0, .int .i64 0] 138) = w3 at *
  go_loopg [8] (hlf D) (fun k _ wr => ∃ u l vl, u ≤ hlf D ∧ Hid (scanP D a (hlf D) (hlf D) 0 [] = scanP D a (hlf D) k u l) ∧ hlf D ≤ u + k ∧ Hid (ScI w wr rb xb vl u l) ∧ l.length ≤ u)
  case atStart => exact ⟨0, [], _, by omega, rfl, by omega, I0.out, by simp⟩
  case round =>
    obtain ⟨u, l, vl, hu, hsc, huk, hI, hll⟩ := hrel
    obtain ⟨ao2, cp2, rfl⟩ := own_slice hI.out.own
    have c1 := hI.out.c1
    have HEND : Hid (scanP D a (hlf D) gk u l = some (u, l) → u = uu ∧ l = ll) := by
      intro h
      have h1 := HSC.out
      rw [hsc.out, h] at h1
      simp at h1
      exact h1
    by_cases hlt2 : u < hlf D
    · have hlt2' : (u : Int) < (hlf D : Int) := by omega
      obtain ⟨k, rfl⟩ : ∃ k, gk = k + 1 := ⟨gk - 1, by omega⟩
      obtain ⟨au, hau⟩ : ∃ au : Nat, (a : Int) + u = au := ⟨a + u, by simp⟩
      have HA : Hid (au = a + u) := by show au = a + u; omega
      have hau1 : au < D.now.length := by omega
      have hau1' : (au : Int) < (D.now.length : Int) := by omega
      have Hr := Lib.hid (H.out.fr (Fr.of_below hI.out.bel Nowhere) (fun _ _ h => h))
      have hz1 := HSZ.out au hau1
      obtain ⟨b', o', he', k0⟩ := Hr.out.nth hau1
      simp only [Option.some.injEq, Addr.mk.injEq] at he'
      obtain ⟨rfl, rfl, _⟩ := he'
      have hbz : 0 < (blkS D au).size := by omega
      have hb : byteAt (blkS D au) 0 = (blkS D au)[0].toNat := by simp [byteAt, hbz]
      by_cases hc0 : byteAt (blkS D au) 0 = 0
      · have hv : (((blkS D au)[0].toNat : Int) == 0) = true := by rw [beq_iff_eq]; omega
        have hend := HEND.out (scanP_stop hlt2 (by rw [← HA.out]; exact hc0))
        obtain ⟨rfl, rfl⟩ := hend
        clear hb hc0
        have y0 := hI.out.c0
        have y2 := hI.out.c2
        have r0 := hI.out.r0
        have r1 := hI.out.r1
        have r2 := hI.out.r2
        have z0 := hI.out.fr 0
        have z1 := hI.out.fr 1
        have z2 := hI.out.fr 2
        go_wp2_with fail
        refine ret_scan rfl rb rfl ao2 l.length cp2 u 0 (heap3 hI.out.hr _ _ _) rfl ?_
        exact ⟨_, rfl, (hI.out.setr _ _ _).1, (hI.out.setr _ _ _).2⟩
      · have hv : (((blkS D au)[0].toNat : Int) == 0) = false := by rw [beq_eq_false_iff_ne]; omega
        have HB := Lib.hid hb
        have HC0 := Lib.hid hc0
        have hsome : Hid (∃ n, numJ ((blkS D au).extract 1 64) 4194304 = some n ∧ byteAt (blkS D au) 0 = 1 ∧ u + 1 + cnt n ≤ hlf D) := by
          rcases hnn : numJ ((blkS D au).extract 1 64) 4194304 with _ | n
          · have h1 := HSC.out
            rw [hsc.out, scanP_form hlt2 (by rw [← HA.out]; exact hc0) (by rw [← HA.out]; exact hnn)] at h1
            cases h1
          · refine ⟨n, rfl, ?_⟩
            by_cases hbad : byteAt (blkS D au) 0 ≠ 1 ∨ hlf D < u + 1 + cnt n
            · have h1 := HSC.out
              rw [hsc.out, scanP_bad hlt2 (by rw [← HA.out]; exact hc0) (by rw [← HA.out]; exact hnn) (by rw [← HA.out]; exact hbad)] at h1
              cases h1
            · omega
        obtain ⟨n, hnn, hc1, hfit⟩ := hsome.out
        have hn4 := numJ_le2 hnn
        have hcn : cnt n ≤ 65536 := by unfold cnt; omega
        have HNX : Hid (scanP D a (hlf D) (hlf D) 0 [] = scanP D a (hlf D) k (u + 1 + cnt n) (l ++ [(catS D (au + 1) (cnt n)).extract 0 n])) := by
          show _ = _
          rw [hsc.out, scanP_next hlt2 (by rw [← HA.out]; exact hc1) (by rw [← HA.out]; exact hnn) hfit, ← HA.out]
        have HNUM := Lib.hid (fun w hs hm => Rnumber_any ((blkS D au).extract 1 64) 4194304 n w hs hm hnn)
        clear hb hc0 hnn hsome HEND
        go_wp2_with fail
        refine (HNUM.out wr (by simp; omega) (by omega)).mono ?_
        rintro e w6 ⟨rfl, b6⟩
        have I6 := Lib.hid (hI.out.below b6)
        clear b6 hI HNUM
        have hv1 : (blkS D au)[0].toNat = 1 := by rw [HB.out] at hc1; exact hc1
        have c1 := I6.out.c1
        have hfit' : decide (((hlf D : Int) - (u : Int)) < 1 + (cnt n : Int)) = false := by rw [decide_eq_false_iff_not]; omega
        go_wp2_with fail
        go_quiet (refine Calls.quiet_of_same (Rblocks_any n _ (by omega)))
        go_wp2_with fail
        have I7 : Hid (ScI w (w6.drewN nq) rb xb (.slice ao2 l.length cp2) u l) := ⟨I6.out.hr, I6.out.hx, I6.out.own, below_drewN I6.out.bel nq, I6.out.b1, I6.out.b2, I6.out.ne⟩
        clear I6 c1 hfit' hv1 hv hc1 k0 hbz HB HC0
        generalize w6.drewN nq = w7 at *
        have HCS0 : Hid ((⟨#[]⟩ : ByteArray) = catS D (au + 1) 0) := by show _ = _; unfold catS; rw [catL_zero]
        go_loopg [11, 12] (cnt n) (fun kk sv iv w9 => ∃ (i : Nat) (cs : ByteArray), sv = .string cs ∧ iv = .int .i64 i ∧ i ≤ cnt n ∧ cnt n ≤ i + kk ∧ cs.size = 64 * i ∧ Hid (cs = catS D (au + 1) i) ∧ w9 = w7)
        case atStart => exact ⟨0, ⟨#[]⟩, rfl, rfl, by omega, by omega, rfl, HCS0.out, rfl⟩
        case round =>
          obtain ⟨i, cs, rfl, rfl, hi, hik, hcs, hCS, hw⟩ := hrel
          subst hw
          have c1 := I7.out.c1
          by_cases hic : i < cnt n
          · have hic' : (i : Int) < (cnt n : Int) := by omega
            obtain ⟨kk', rfl⟩ : ∃ g, gk = g + 1 := ⟨gk - 1, by omega⟩
            obtain ⟨ai, hai⟩ : ∃ ai : Nat, (au : Int) + 1 + i = ai := ⟨au + 1 + i, by simp⟩
            have hai1 : ai < D.now.length := by omega
            have hai1' : (ai : Int) < (D.now.length : Int) := by omega
            have HAI : Hid (ai = au + 1 + i) := by show ai = _; omega
            have Hr2 := Lib.hid (H.out.fr (Fr.of_below I7.out.bel Nowhere) (fun _ _ h => h))
            obtain ⟨b', o', he', k0⟩ := Hr2.out.nth hai1
            simp only [Option.some.injEq, Addr.mk.injEq] at he'
            obtain ⟨rfl, rfl, _⟩ := he'
            have hzi := HSZ.out ai hai1
            have HN : Hid (cs ++ blkS D ai = catS D (au + 1) (i + 1)) := by show _ = _; rw [catS_succ, hCS.out, HAI.out]
            generalize blkS D ai = bi at *
            go_wp2_with (refine (Rblocks_any n _ (by omega)).mono ?_; rintro e wx ⟨rfl, rfl⟩)
            go_roundg kk'
            case rel => exact ⟨i + 1, cs ++ bi, rfl, by go_num, by omega, by omega, by rw [ByteArray.size_append]; omega, HN.out, by first | rfl | trivial⟩
            case measure => omega
          · have hic' : ¬ (i : Int) < (cnt n : Int) := by omega
            obtain rfl : i = cnt n := by omega
            rw [← hCS.out] at HNX
            have hnc : n ≤ cs.size := by rw [hcs]; unfold cnt; omega
            have hnc' : (n : Int) ≤ (cs.size : Int) := by omega
            clear hCS hik hic HCS0 hcs hnc
            go_wp2_with (refine (Rblocks_any n _ (by omega)).mono ?_; rintro e wx ⟨rfl, rfl⟩)
            have c0 := I7.out.c0
            refine region_seq (fun w' => w'.cell? ⟨xb, 0, none⟩ = some (.slice ao2 l.length cp2)) [8]
              [(.p, 0), (.q, 1), (.p, 2), (.p, 3), (.p, 4), (.l, 5), (.l, 6), (.p, 7), (.d, 8)] (by kernel_rfl) (by kernel_rfl) (by kernel_rfl) (by kernel_rfl) (fun d v c a w h => by cases d <;> exact h) ?_
            have hS : wx.drew.cell? ⟨xb, 0, none⟩ = some (.slice ao2 l.length cp2) := c0
            have I8 := Lib.hid (I7.out.below (Below.refl _ _).drew)
            (refine seq_p (N := some 91) rfl rfl (by rfl) ?_ (fun w' => ?_) ?_
             rotate_left
             · go_simp
               with_reducible rfl
             simp only [Act.put, List.setIfInBounds_toArray, List.set_cons_zero, List.set_cons_succ])
            (refine seq_q (N := some 92) rfl rfl (by rfl) ?_ ?_ hS ?_
             rotate_left
             · rintro w' s1
               go_simp
               with_reducible rfl
             simp only [Act.put, List.setIfInBounds_toArray, List.set_cons_zero, List.set_cons_succ])
            (refine seq_p (N := some 93) rfl rfl (by rfl) ?_ (fun w' => ?_) ?_
             rotate_left
             · go_simp
               with_reducible rfl
             simp only [Act.put, List.setIfInBounds_toArray, List.set_cons_zero, List.set_cons_succ])
            (refine seq_p (N := some 94) rfl rfl (by rfl) ?_ (fun w' => ?_) ?_
             rotate_left
             · go_simp
               with_reducible rfl
             simp only [Act.put, List.setIfInBounds_toArray, List.set_cons_zero, List.set_cons_succ])
            (refine seq_p (N := some 95) rfl rfl (by rfl) ?_ (fun w' => ?_) ?_
             rotate_left
             · go_simp
               with_reducible rfl
             simp only [Act.put, List.setIfInBounds_toArray, List.set_cons_zero, List.set_cons_succ])
            refine seq_l rfl (by rfl) (wp_bs (N := some 96) (ps := #[(0, .string (cs.extract 0 n))]) rfl rfl (by simp [Act.eval]) (run_bs_str _ _) ?_)
            simp only [Act.put, List.setIfInBounds_toArray, List.set_cons_zero, List.set_cons_succ]
            refine ⟨fun _ => (Below.cell ((Below.refl _ _).alloc (Nat.le_refl _) _) (by exact lt_of_cell' hS)).trans hS, ?_⟩
            refine seq_l rfl (by rfl) (wp_app1 (W := wx.drew) (N := some 97) #[.string (cs.extract 0 n)] _ _ 22 9 (.string ⟨#[]⟩) 1 16 w.heap.size rfl rfl Tryz.underlying22 info_str rfl (by omega) (by omega) (.slice ao2 l.length cp2) l.length (l.map .string) rfl rfl rfl (by simp [Value.oneCell']) I8.out.own I8.out.bel.size (by omega) ?_)
            intro v4 w11 hown4 hg4 hat4
            simp only [Act.put, List.setIfInBounds_toArray, List.set_cons_zero, List.set_cons_succ]
            have hnx : xb ≠ (0 : Nat) ∨ True := .inr trivial
            have hne4 : (Value.slice ao2 l.length cp2).ownBlock ≠ some xb := fun e => own_ne I8.out.own I8.out.hx (by decide) e rfl
            have hc11 : w11.cell? ⟨xb, 0, none⟩ = some (.slice ao2 l.length cp2) := (World.cell?_of_block (hg4.block _ (lt_of_cell' hS) (fun e => hne4 e.symm))).trans hS
            have hf11 : w11.frozen? ⟨xb, 0, none⟩ = false := (World.frozen?_of_block (hg4.block _ (lt_of_cell' hS) (fun e => hne4 e.symm))).trans (I8.out.fx 0)
            refine ⟨fun _ => hc11, ?_⟩
            (refine seq_p (N := some 98) rfl rfl (by rfl) ?_ (fun w' => ?_) ?_
             rotate_left
             · go_simp
               with_reducible rfl
             simp only [Act.put, List.setIfInBounds_toArray, List.set_cons_zero, List.set_cons_succ])
            refine seq_d rfl (by rfl) (wp_st rfl rfl rfl rfl (store1 _ _ xb 0 v4 (.slice ao2 l.length cp2) (own_cell hown4) (by kernel_rfl) hc11 hf11) ?_)
            refine seq_nil ?_
            have I12 := Lib.hid (I8.out.push (cs.extract 0 n) hown4 hg4)
            clear hown4 hg4 hat4 hne4 hc11 hf11 hS I8 I7 c0 c1 hnx
            generalize w11.setCell ⟨xb, 0, none⟩ v4 = w12 at *
            clear w11
            have c1 := I12.out.c1
            have f1 := I12.out.fx 1
            go_wp2_with fail
            refine region_seq (fun w' => w'.cell? ⟨xb, 1, none⟩ = some (.int .i64 u)) [7]
              [(.p, 0), (.q, 1), (.p, 2), (.p, 3), (.l, 4), (.p, 5), (.p, 6), (.d, 7)] (by kernel_rfl) (by kernel_rfl) (by kernel_rfl) (by kernel_rfl) (fun d v c a w h => by cases d <;> exact h) ?_
            have hS : w12.drew.cell? ⟨xb, 1, none⟩ = some (.int .i64 u) := c1
            (refine seq_p (N := some 99) rfl rfl (by rfl) ?_ (fun w' => ?_) ?_
             rotate_left
             · go_simp
               with_reducible rfl
             simp only [Act.put, List.setIfInBounds_toArray, List.set_cons_zero, List.set_cons_succ])
            (refine seq_q (N := some 100) rfl rfl (by rfl) ?_ ?_ hS ?_
             rotate_left
             · rintro w' s1
               go_simp
               with_reducible rfl
             simp only [Act.put, List.setIfInBounds_toArray, List.set_cons_zero, List.set_cons_succ])
            (refine seq_p (N := some 101) rfl rfl (by rfl) ?_ (fun w' => ?_) ?_
             rotate_left
             · go_simp
               with_reducible rfl
             simp only [Act.put, List.setIfInBounds_toArray, List.set_cons_zero, List.set_cons_succ])
            (refine seq_p (N := some 102) rfl rfl (by rfl) ?_ (fun w' => ?_) ?_
             rotate_left
             · go_simp
               with_reducible rfl
             simp only [Act.put, List.setIfInBounds_toArray, List.set_cons_zero, List.set_cons_succ])
            refine seq_l rfl (by rfl) (wp_cl (N := some 103) (f := 96) (vs := #[.int .i64 n]) rfl rfl (by simp [Act.eval]) (callF Tryz.func96 rfl (by decide) _ _) ?_)
            refine (Rblocks_any n _ (by omega)).mono ?_
            rintro e w13 ⟨rfl, rfl⟩
            refine ⟨_, rfl, ?_⟩
            simp only [Act.put, List.setIfInBounds_toArray, List.set_cons_zero, List.set_cons_succ]
            refine ⟨fun h => h, ?_⟩
            (refine seq_p (N := some 104) rfl rfl (by rfl) ?_ (fun w' => ?_) ?_
             rotate_left
             · go_simp
               with_reducible rfl
             simp only [Act.put, List.setIfInBounds_toArray, List.set_cons_zero, List.set_cons_succ])
            (refine seq_p (N := some 105) rfl rfl (by rfl) ?_ (fun w' => ?_) ?_
             rotate_left
             · go_simp
               with_reducible rfl
             simp only [Act.put, List.setIfInBounds_toArray, List.set_cons_zero, List.set_cons_succ])
            have hwr := wr_used2 u (cnt n) (by omega)
            rw [hwr]
            refine seq_d rfl (by rfl) (wp_st rfl rfl rfl rfl (store1 _ _ xb 1 (.int .i64 ((u + 1 + cnt n : Nat) : Int)) _ rfl (by kernel_rfl) c1 f1) ?_)
            refine seq_nil ?_
            have I14 := Lib.hid ((I12.out.below (Below.refl _ _).drew).used (u + 1 + cnt n))
            clear hS c1 f1 I12 hwr
            generalize w12.drew.setCell ⟨xb, 1, none⟩ (.int .i64 ((u + 1 + cnt n : Nat) : Int)) = w14 at *
            go_wp2_with fail
            go_roundg k
            case rel => exact ⟨u + 1 + cnt n, l ++ [cs.extract 0 n], v4, by omega, HNX.out, by omega, I14.out, by simp; omega⟩
            case measure => omega
    · have hlt2' : ¬ (u : Int) < (hlf D : Int) := by omega
      have hend := HEND.out (scanP_end (by omega))
      obtain ⟨rfl, rfl⟩ := hend
      have y0 := hI.out.c0
      have y2 := hI.out.c2
      have r0 := hI.out.r0
      have r1 := hI.out.r1
      have r2 := hI.out.r2
      have z0 := hI.out.fr 0
      have z1 := hI.out.fr 1
      have z2 := hI.out.fr 2
      go_wp2_with fail
      refine ret_scan rfl rb rfl ao2 l.length cp2 u 0 (heap3 hI.out.hr _ _ _) rfl ?_
      exact ⟨_, rfl, (hI.out.setr _ _ _).1, (hI.out.setr _ _ _).2⟩
end Go.Proofs.YtjflcpkmoamijaaGreatDoor
