import Derived.Test.YtjflcpkmoamijaaGreatDoorDev3
import Derived.Deep.WholeRow
namespace Go.Proofs.YtjflcpkmoamijaaGreatDoor
open Go.RowKit
set_option linter.unusedVariables false
set_option linter.unusedSimpArgs false
set_option linter.unnecessarySimpa false

/-- The blocks behind some writes. -/
def redo (l : List Blk) (g : List (Nat × Blk)) : List Blk := g.foldl (fun l x => l.set x.1 x.2) l
def Dev.upto (D : Dev) (n : Int) : Nat := (min (max n 0) D.log.length).toNat
def Dev.after (D : Dev) (n : Int) : Dev := ⟨redo D.first (D.log.take (D.upto n)), [], redo D.first (D.log.take (D.upto n)), false, 0⟩
theorem redo_len (l : List Blk) (g : List (Nat × Blk)) : (redo l g).length = l.length := by
  unfold redo
  induction g generalizing l with
  | nil => rfl
  | cons x g ih => rw [List.foldl_cons, ih]; simp
theorem redo_64 (l : List Blk) (g : List (Nat × Blk)) (hl : ∀ x ∈ l, x.length = 64) (hg : ∀ x ∈ g, x.2.length = 64) : ∀ x ∈ redo l g, x.length = 64 := by
  unfold redo
  induction g generalizing l with
  | nil => exact hl
  | cons y g ih =>
    rw [List.foldl_cons]
    refine ih _ ?_ (fun x hx => hg x (by simp [hx]))
    intro x hx
    rcases List.mem_or_eq_of_mem_set hx with hx | rfl
    · exact hl x hx
    · exact hg y (by simp)
theorem redo_snoc (l : List Blk) (g : List (Nat × Blk)) (k : Nat) (h : k < g.length) : redo l (g.take (k + 1)) = (redo l (g.take k)).set (g[k]).1 (g[k]).2 := by
  unfold redo
  rw [List.take_succ_eq_append_getElem h, List.foldl_append]
  rfl

theorem Fr.setRow {a b : World} {S : Nat → Prop} (h : Fr a b S) (g : Nat) (cs : Array Value) (hg : g < a.heap.size → S g) : Fr a (b.setRow g cs) S :=
  ⟨h.os, h.tape, h.output, by simpa using h.size, fun i hi hn => by
    have hne : i ≠ g := fun e => hn (by subst e; exact hg hi)
    exact (setRow_other _ _ _ _ hne).trans (h.block i hi hn)⟩
theorem after_is {w5 : World} {D : Dev} (hD : D.Ok) (n : Int) (nb bf bn m : Nat) (hm : D.upto n = m) (hnb : nb = w5.heap.size) (hne : bf ≠ bn) (hbf : w5.heap[bf]? = some (.cells (rowOf (redo D.first (D.log.take m))) 108 (0, 0)))
    (hbn : w5.heap[bn]? = some (.cells (rowOf (redo D.first (D.log.take m))) 108 (0, 0))) :
    DevIs (w5.alloc (.cells #[.slice (some ⟨bf, 0, none⟩) D.first.length D.first.length, .slice none 0 0, .slice (some ⟨bn, 0, none⟩) D.first.length D.first.length, .bool false, .int .i64 0] 71)) ⟨nb, bf, bn, .slice none 0 0⟩ (D.after n) := by
  subst hnb
  have hl : (D.after n).now.length = D.first.length := redo_len _ _
  have e : (D.after n).now = redo D.first (D.log.take m) := by rw [← hm]; rfl
  have e' : (D.after n).first = redo D.first (D.log.take m) := by rw [← hm]; rfl
  have h64 := redo_64 D.first (D.log.take m) hD.f64 (fun x hx => hD.l64 x (List.mem_of_mem_take hx))
  refine ⟨⟨?_, ?_, ?_, ?_, ?_, ?_, ?_, ?_⟩, ?_, ?_, ?_, World.ownsRow_nil _ _ _ _, hne⟩
  · rw [e, e']
  · rw [hl, hD.len]; exact hD.pos
  · rw [hl, hD.len]; exact hD.top
  · rw [e']; exact h64
  · rw [e]; exact h64
  · intro x hx; cases hx
  · intro x hx; cases hx
  · show 0 < _; omega
  · rw [hl]; exact heap_alloc_new w5 _
  · rw [e', Below.heap_alloc _ _ _ (lt_of_heap hbf)]; exact hbf
  · rw [e, Below.heap_alloc _ _ _ (lt_of_heap hbn)]; exact hbn
theorem DevIs.logAt {w : World} {r : DRef} {D : Dev} (h : DevIs w r D) {g n c : Nat} (hv : r.vl = .slice (some ⟨g, 0, none⟩) n c) (k : Nat) (hk : k < D.log.length) : w.rangeAt g (k * 65) (wvals (D.log[k])) := by
  intro j v hj
  have hl := h.hl
  rw [hv] at hl
  have h65 : ∀ x ∈ D.log, (wvals x).length = 65 := fun x hx => by rw [wvals_len, h.ok.l64 x hx]
  have hj' : j < 65 := by have := (List.getElem?_eq_some_iff.1 hj).1; rw [h65 _ (List.getElem_mem hk)] at this; exact this
  have := hl.cells (g := g) rfl (k * 65 + j) v (by rw [flat_get wvals 65 D.log k j h65 hk hj']; exact hj)
  rwa [Addr.add_mid, Nat.zero_add] at this
/-- The copy of one write, in a block of its own. -/
theorem wr_facts (w : World) (i : Nat) (b : Blk) (hb : b.length = 64) : (w.alloc (.cells (wrow i b) 110)).cell? ⟨w.heap.size, 0, none⟩ = some (.int .i64 i) ∧
    (Instr.loadAt 108 (.pointer (some ⟨w.heap.size, 1, none⟩))).run Tryz.prog (w.alloc (.cells (wrow i b) 110)) = .ok (.agg (brow b)) (w.alloc (.cells (wrow i b) 110)) := by
  refine ⟨by rw [World.cell?_alloc_new]; simp [wrow, wvals], ?_⟩
  refine run_loadAt_mid _ _ _ 108 (bvals b) _ ?_ Tryz.underlying108 rfl (by rw [bvals_len, hb]; kernel_rfl)
  intro j v hj
  rw [World.cell?_alloc_new]
  simp only [wrow, wvals]
  rw [List.getElem?_toArray, Nat.add_comm, List.getElem?_cons_succ]
  exact hj
theorem store_row {w : World} {g : Nat} {l : List Blk} (hg : w.heap[g]? = some (.cells (rowOf l) 108 (0, 0))) (h64 : ∀ x ∈ l, x.length = 64) (i : Nat) (b : Blk) (hi : i < l.length) (hb : b.length = 64) :
    (Instr.storeAt 108 (.pointer (some ⟨g, i * 64, none⟩)) (.agg (brow b))).run Tryz.prog w = .ok () (w.setRow g (rowOf (l.set i b))) := by
  have hlen : (rowOf l).size = l.length * 64 := by unfold rowOf; rw [List.size_toArray, flat_len bvals 64 l (fun x hx => by rw [bvals_len]; exact h64 x hx)]
  have hst := run_storeCells_at Tryz.prog g (i * 64) 108 (bvals b) 0 (rowOf l) w hg (by rw [bvals_len, hb, hlen]; omega) (by
    intro v hv
    obtain ⟨c, _, rfl⟩ := List.mem_map.1 hv
    rfl)
  have hset : ((rowOf l).toList.take (i * 64) ++ bvals b ++ (rowOf l).toList.drop (i * 64 + 64)).toArray = rowOf (l.set i b) := by
    unfold rowOf
    rw [← flat_set bvals 64 l i b (fun x hx => by rw [bvals_len]; exact h64 x hx) hi]
  simp only [Nat.add_zero, bvals_len, hb, hset] at hst
  have hi : (Tryz.prog.info? 108).map (·.size) = some 64 := by kernel_rfl
  cases hq : Tryz.prog.info? 108 with
  | none => simp [hq] at hi
  | some i0 =>
    have hs : (brow b).size = i0.size := by rw [brow_size hb]; simp [hq] at hi; omega
    have hl : (brow b).toList = bvals b := by simp [brow]
    simp [Instr.storeAt, Instr.sureAddr, storeVar, sizeOf, typeInfo, hq, Value.cells, hs, hl, hst]

set_option maxHeartbeats 1000000 in
set_option maxRecDepth 100000 in
theorem After_any (r : DRef) (D : Dev) (n : Int) (w : World) (h : DevIs w r D) (hlog : D.log.length ≤ 1000000000) :
    Calls Tryz.prog 32 #[.pointer (some ⟨r.b, 0, none⟩), .int .i64 n] w (DPost (D.after n) w) := by
  have c0 := h.c0
  have c1 := h.c1
  have H := Lib.hid h
  have hlen := h.ok.len
  have htop := h.ok.top
  obtain ⟨A, c, hv, hcl⟩ : ∃ A c, r.vl = .slice A D.log.length c ∧ D.log.length ≤ c := by
    rcases h.hl.2 with ⟨hv, h0⟩ | ⟨g, cap, cur, hv, _, _, hc, _⟩
    · exact ⟨none, 0, by rw [hv, h0], by omega⟩
    · exact ⟨_, cap, hv, hc⟩
  rw [hv] at c1
  have HV := Lib.hid hv
  clear h hv
  rw [← hlen] at c0 htop
  have HL := Lib.hid hlen
  clear hlen
  have hfirst : (DevIs w r D) := H.out
  have hf0 := Lib.hid H.out.hf
  clear hfirst
  go_enter Tryz.func32, Tryz.ntmps32
  go_wp2_with (go_at_call 66; refine (copied_any r.bf D.first _ H.out.ok.f64 htop hf0.out).mono ?_; rintro e w1 ⟨rfl, hb1, hf1, hs1⟩)
  have d1 : w1.cell? ⟨r.b, 1, none⟩ = some (.slice A D.log.length c) := (World.cell?_of_block (hf1.block _ (H.out.lt (.inl rfl)) (fun h => h))).trans c1
  have H1 := Lib.hid (H.out.fr hf1 (fun _ _ h => h))
  have HB1 := Lib.hid hb1
  have HF1 := Lib.hid hf1
  clear hb1 hf1 c0 c1
  go_quiet (fail)
  obtain ⟨m, hm⟩ : ∃ m : Nat, (m : Int) = min (max n 0) (D.log.length : Int) := ⟨D.upto n, by unfold Dev.upto; omega⟩
  have hmm : max (m : Int) 0 = (m : Int) := by omega
  have hml : m ≤ D.log.length := by omega
  have hup : Hid (D.upto n = m) := by show D.upto n = m; unfold Dev.upto; omega
  rw [← hm]
  rw [hmm, Int.toNat_natCast]
  clear hm hmm
  have H2 : Hid (DevIs (w1.drewN nq) r D) := (H1.out.drewN nq)
  have HF2 : Hid (Fr w (w1.drewN nq) Nowhere) := HF1.out.drewN nq
  have HB2 : Hid ((w1.drewN nq).heap[w.heap.size]? = some (.cells (rowOf D.first) 108 (0, 0))) := HB1.out
  clear d1 H1 HB1 HF1
  generalize w1.drewN nq = w2 at *
  go_wp2
  go_loopw [29] (fun i wr => ∃ k : Nat, k ≤ m ∧ i = .int .i64 k ∧ Hid (Fr w wr Nowhere) ∧ Hid (wr.heap[w.heap.size]? = some (.cells (rowOf (redo D.first (D.log.take k))) 108 (0, 0)))) (fun i _ => m - (intOf i).toNat)
  case atStart => exact ⟨0, by omega, rfl, HF2.out, HB2.out⟩
  case round =>
    obtain ⟨k, hk, rfl, HFr, HBr⟩ := hrel
    by_cases hlt : k < m
    · have hlt' : (k : Int) < (m : Int) := by omega
      have hkl : k < D.log.length := by omega
      have hHr := Lib.hid (H2.out.fr (w := w2) (w' := w2) (Fr.refl _ Nowhere) (fun _ _ h => h))
      obtain ⟨g, rfl⟩ : ∃ g, A = some ⟨g, 0, none⟩ := by
        have h1 := H.out.hl.2
        rw [HV.out] at h1
        rcases h1 with ⟨_, h0⟩ | ⟨g, cap, cur, h1, _⟩
        · omega
        · injection h1 with h1
          exact ⟨g, h1⟩
      have hDr : DevIs wr r D := H.out.fr HFr.out (fun _ _ h => h)
      have hrg := Lib.hid (hDr.logAt HV.out k hkl)
      have hb64 := H.out.ok.l64 _ (List.getElem_mem hkl)
      have hat := H.out.ok.lat _ (List.getElem_mem hkl)
      have hsn := Lib.hid (redo_snoc D.first D.log k hkl)
      have h64 := Lib.hid (redo_64 D.first (D.log.take k) H.out.ok.f64 (fun x hx => H.out.ok.l64 x (List.mem_of_mem_take hx)))
      have hrl := redo_len D.first (D.log.take k)
      have hHL := HL.out
      generalize hx : D.log[k] = x at *
      obtain ⟨xi, xb⟩ := x
      have hxi : xi < (redo D.first (D.log.take k)).length := by rw [hrl, hHL]; exact hat
      have hXI : xi < D.first.length := by rw [hHL]; exact hat
      have HX := Lib.hid hx
      have HRL := Lib.hid hrl
      have hb64' : xb.length = 64 := hb64
      have HB64 := Lib.hid hb64'
      clear hx hrl hHL hHr hDr hb64 hb64' hat
      have hlt2 : w.heap.size < wr.heap.size := lt_of_heap HBr.out
      have hxi' : (xi : Int) < (D.first.length : Int) := by omega
      go_wp2_with (first
        | (refine wpList_load_run 110 _ rfl rfl _ _ rfl (run_loadAt_mid wr g (k * 65) 110 (wvals (xi, xb)) _ hrg.out Tryz.underlying110 rfl (by rw [wvals_len, HB64.out]; kernel_rfl)) ?_)
        | (refine wpList_store_run' 110 _ _ rfl rfl _ _ rfl rfl (run_storeAt_new wr 110 _ (wrow xi xb) (by rw [wrow_size HB64.out]; kernel_rfl) (by rw [wrow_size HB64.out]; rfl) (all_oneCell_toArray (by have := wrow_one xi xb; simpa [wrow] using this))) ?_
           obtain ⟨q1, q2⟩ := wr_facts wr xi xb HB64.out
           have q3 := Lib.hid q2
           have hFr3 := Lib.hid (HFr.out.alloc (.cells (wrow xi xb) 110))
           have hB3 : Hid ((wr.alloc (.cells (wrow xi xb) 110)).heap[w.heap.size]? = some (.cells (rowOf (redo D.first (D.log.take k))) 108 (0, 0))) := (Below.heap_alloc wr _ _ hlt2).trans HBr.out
           clear q2
           generalize wr.alloc (.cells (wrow xi xb) 110) = w3 at *)
        | (refine wpList_load_run 108 _ rfl rfl _ _ rfl q3.out ?_)
        | (refine wpList_store_run' 108 _ _ rfl rfl _ _ rfl rfl (store_row hB3.out h64.out xi xb hxi HB64.out) ?_))
      have hB4 := Lib.hid (setRow_heap _ _ _ (rowOf ((redo D.first (D.log.take k)).set xi xb)) _ _ hB3.out)
      have hF4 : Hid (Fr w (w3.setRow w.heap.size (rowOf ((redo D.first (D.log.take k)).set xi xb))) Nowhere) :=
        hFr3.out.setRow _ _ (fun h => absurd h (Nat.lt_irrefl _))
      go_roundw
      case rel => exact ⟨k + 1, by omega, by go_num, hF4.out, by rw [hsn.out]; exact hB4.out⟩
      case measure => simp [intOf]; omega
    · have hkm : k = m := by omega
      subst hkm
      have hl64 := redo_64 D.first (D.log.take k) H.out.ok.f64 (fun x hx => H.out.ok.l64 x (List.mem_of_mem_take hx))
      have hrl := redo_len D.first (D.log.take k)
      have hcp := copied_any w.heap.size (redo D.first (D.log.take k)) wr hl64 (by rw [hrl]; exact htop) HBr.out
      rw [hrl] at hcp
      have HCP := Lib.hid hcp
      have HRL := Lib.hid hrl
      have HL64 := Lib.hid hl64
      clear hcp hrl hl64
      go_wp2_with fail
      refine HCP.out.mono ?_
      rintro e w5 ⟨rfl, hb5, hf5, hs5⟩
      have hlt2 : w.heap.size < wr.heap.size := lt_of_heap HBr.out
      have hbn : w5.heap[w.heap.size]? = some (.cells (rowOf (redo D.first (D.log.take k))) 108 (0, 0)) := hf5.heap HBr.out (fun h => h)
      have hF5 := Lib.hid (HFr.out.tr hf5)
      have HB5 := Lib.hid hb5
      have HBN := Lib.hid hbn
      have hsz : w5.heap.size = wr.heap.size + 1 := hs5
      rw [HRL.out]
      have HFr1 := Lib.hid HFr.out
      clear hb5 hbn hf5 hs5 HCP HBr HFr HB2 HF2
      go_wp2
      go_ret
      exact ⟨_, rfl, after_is H.out.ok n _ _ _ k hup.out hsz.symm (by omega) HB5.out HBN.out, (hF5.out.alloc _).below (Nat.le_refl _) (fun _ h => h.elim), by
        have := HFr1.out.size
        intro j hj; rcases hj with rfl | rfl | rfl | hj <;> first | (dsimp only; omega) | (simp [Value.ownBlock] at hj)⟩
end Go.Proofs.YtjflcpkmoamijaaGreatDoor
