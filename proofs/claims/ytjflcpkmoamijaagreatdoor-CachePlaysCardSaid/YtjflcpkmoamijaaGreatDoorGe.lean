import Derived.Test.YtjflcpkmoamijaaGreatDoorGd
import Derived.Test.YtjflcpkmoamijaaGreatDoorShelf
import Derived.Shelf.SlSortCmp.WholeK
namespace Go.Proofs.YtjflcpkmoamijaaGreatDoor
open Go.RowKit Go.Shelf Go.Sort
set_option linter.unusedVariables false
set_option linter.unusedSimpArgs false
set_option linter.unnecessarySimpa false

instance : Inhabited Bl := ⟨⟨⟨0, 0, 0⟩, ⟨#[]⟩⟩⟩
def cfB (x y : Bl) : Int := if x.t.less y.t then -1 else 1
theorem ltB (x y : Bl) : ltOf cfB x y = x.t.less y.t := by
  unfold ltOf cfB
  cases x.t.less y.t <;> simp
theorem swoB : SWO (ltOf cfB) where
  irrefl x := by rw [ltB]; exact less_irr _
  trans x y z h1 h2 := by rw [ltB] at *; exact less_trans h1 h2
  ntrans x y z h1 h2 := by
    rw [ltB] at *
    cases h : x.t.less z.t
    · rfl
    · exfalso
      have a1 : ¬ x.t.less y.t = true := by rw [h1]; simp
      have a2 : ¬ y.t.less z.t = true := by rw [h2]; simp
      rw [less_iff] at a1 a2 h
      omega
set_option maxHeartbeats 1000000 in
theorem tiles1 (x y : Bl) (W : World) : Calls Tryz.prog 60 #[x.v, y.v] W fun e w' => e = .returned (.int .i64 (cfB x y)) ∧ ∃ q os', w' = grow (W.drewN q) os' := by
  obtain ⟨⟨z, x, y0⟩, s⟩ := x
  obtain ⟨⟨z', x', y'⟩, s'⟩ := y
  unfold Bl.v
  simp only
  have hle : cfB ⟨⟨z, x, y0⟩, s⟩ ⟨⟨z', x', y'⟩, s'⟩ = if Tl.less ⟨z, x, y0⟩ ⟨z', x', y'⟩ then -1 else 1 := rfl
  rw [hle]
  have hcon := fun W' => Less_eq ⟨z, x, y0⟩ ⟨z', x', y'⟩ W'
  simp only [Tl.v] at hcon
  generalize Tl.less ⟨z, x, y0⟩ ⟨z', x', y'⟩ = b at *
  clear hle
  have HC := Lib.hid hcon
  clear hcon
  cases b
  all_goals
    go_enter Tryz.func60, Tryz.ntmps60
    go_wp2_with (go_at_call 61; refine (HC.out _).mono ?_; rintro e w' ⟨rfl, rfl⟩)
    go_ret
    exact ⟨rfl, 0, _, by rw [alloc_eq_grow, alloc_eq_grow, alloc_eq_grow, alloc_eq_grow, grow_grow, grow_grow, grow_grow]; rfl⟩
end Go.Proofs.YtjflcpkmoamijaaGreatDoor
namespace Go.Proofs.YtjflcpkmoamijaaGreatDoor
open Go.RowKit Go.Shelf
set_option linter.unusedVariables false
set_option linter.unusedSimpArgs false
set_option linter.unnecessarySimpa false

theorem ins_none (fv : Value) (w : World) : Calls Tryz.prog 117 #[.slice none 0 0, .int .i64 0, .int .i64 0, fv] w fun e w' => e = .returned (.tuple #[]) ∧ w' = w := by
  go_enter Tryz.func117, Tryz.ntmps117
  go_wp2_with fail
  refine wp_loop_rounds 1 ?_
  rw [rounds_succ]
  go_wp2_with fail
  go_end0
  exact ⟨rfl, rfl⟩
theorem pdq_none (lim : Int) (fv : Value) (w : World) : Calls Tryz.prog 99 #[.slice none 0 0, .int .i64 0, .int .i64 0, .int .i64 lim, fv] w fun e w' => e = .returned (.tuple #[]) ∧ w' = w := by
  have hi := fun w => ins_none fv w
  go_enter Tryz.func99, Tryz.ntmps99
  go_wp2_with fail
  refine wp_loop_rounds 1 ?_
  rw [rounds_succ]
  go_wp2_with (go_at_call 117; refine (hi _).mono ?_; rintro e w' ⟨rfl, rfl⟩)
  (try simp only [Exit.inBlock, Exit.then]); refine bodyPost_ret (results_none rfl _ _ _) rfl ?_
  exact ⟨rfl, rfl⟩
set_option maxRecDepth 100000 in
theorem sort_none (fv : Value) (w : World) : Calls Tryz.prog 59 #[.slice none 0 0, fv] w fun e w' => e = .returned (.tuple #[]) ∧ w' = w := by
  have hp := fun lim w => pdq_none lim fv w
  go_enter Tryz.func59, Tryz.ntmps59
  go_wp2_with (first | (go_at_call 99; refine (hp _ _).mono ?_; rintro e w' ⟨rfl, rfl⟩) | go_in)
  go_end0
  exact ⟨rfl, rfl⟩
end Go.Proofs.YtjflcpkmoamijaaGreatDoor
namespace Go.Proofs.YtjflcpkmoamijaaGreatDoor
open Go.RowKit Go.Shelf Go.Sort
set_option linter.unusedVariables false
set_option linter.unusedSimpArgs false
set_option linter.unnecessarySimpa false

theorem flatK_get (l : List Bl) (d : Array Bl) (hd : d.toList = l) (j : Nat) (hj : j < l.length * 4) : (flatK Bl.cells 4 d)[j]! = (l.flatMap Bl.cells)[j]! := by
  subst hd
  rw [get_flatK _ _ _ _ (by simpa using hj)]
  have hj' : j < d.size * 4 := by simpa using hj
  have h1 : j / 4 < d.toList.length := by rw [Array.length_toList]; omega
  have h2 := flat_get Bl.cells 4 d.toList (j / 4) (j % 4) (fun _ _ => rfl) h1 (Nat.mod_lt _ (by omega))
  have e : j / 4 * 4 + j % 4 = j := by omega
  rw [e] at h2
  have h3 : d[j / 4]! = d.toList[j / 4] := by
    rw [getElem!_pos d _ (by omega)]; rfl
  rw [h3, List.getElem!_eq_getElem?_getD, List.getElem!_eq_getElem?_getD, h2]
theorem sort_ok : SortOk := by
  intro v acc B w hB hlen hown
  rcases hown.2 with ⟨rfl, h0⟩ | ⟨g, cap, cur, rfl, hb, hg, hn, hm, hs, ht⟩
  · have : acc = [] := List.eq_nil_of_length_eq_zero h0
    subst this
    refine (sort_none _ w).mono ?_
    rintro e w' ⟨rfl, rfl⟩
    exact ⟨rfl, [], List.Perm.refl _, List.Pairwise.nil, hown, Below.refl _ _⟩
  · have eg : ∀ args w, (callFunc 60 args).run Tryz.prog w = .ok (.enter 60 args) w := callF Tryz.func60 rfl (by decide)
    have hlt := lt_of_heap hg
    have hfl : (acc.flatMap Bl.cells).length = acc.length * 4 := flat_len Bl.cells 4 acc (fun _ _ => rfl)
    have hH : HoldsK Bl.cells 4 w g 0 acc.toArray := by
      intro j hj
      rw [size_flatK] at hj
      have hj' : j < acc.length * 4 := by simpa using hj
      refine ⟨?_, by simp [World.frozen?, hg]⟩
      have h1 := World.ownsRow.cellAt hown j hj'
      rw [Nat.zero_add, h1, flatK_get acc _ (by simp) j hj', List.getElem?_eq_getElem (by omega)]
      rw [List.getElem!_eq_getElem?_getD, List.getElem?_eq_getElem (by omega)]
      rfl
    have hcon := AnyQ.slices_SortFunc Tryz.sortBlob 4 Tryz.isAgg93 Tryz.sizeOf93 Bl.cells (fun _ => rfl) (fun x v hv => by simp [Bl.cells] at hv; rcases hv with rfl | rfl | rfl | rfl <;> rfl) cfB swoB 60 #[] g 0 cap acc.toArray w eg
      (fun _ _ _ _ x y => tiles1 x y _) hH hlt (by simp; omega)
    change Calls Tryz.prog 59 _ _ _ at hcon
    rw [List.size_toArray] at hcon
    refine hcon.mono ?_
    rintro e w' ⟨rfl, d', n, os, hp, hso, rfl⟩
    have hsz : d'.size = acc.length := by have := hp.1; simpa using this
    have hpl : d'.toList.Perm acc := by
      have := hp.2.2
      have e1 : d'.extract 0 acc.length = d' := by rw [← hsz]; simp
      have e2 : acc.toArray.extract 0 acc.length = acc.toArray := by
        have : acc.length = acc.toArray.size := by simp
        rw [this]; simp
      rw [e1, e2] at this
      simpa using this
    refine ⟨rfl, d'.toList, hpl, ?_, ?_, ?_⟩
    · rw [List.pairwise_iff_getElem]
      intro i j hi hj hij
      rw [Array.length_toList] at hi hj
      have := hso i j (Nat.zero_le _) hij (by omega)
      rw [ltB, getElem!_pos d' _ hj, getElem!_pos d' _ hi] at this
      simpa using this
    · have hl2 : d'.toList.length = acc.length := by simpa using hsz
      have hfl2 : (d'.toList.flatMap Bl.cells).length = acc.length * 4 := by rw [flat_len Bl.cells 4 _ (fun _ _ => rfl), hl2]
      refine ⟨hfl2, .inr ⟨g, cap, Sort.putCells id 0 (flatK Bl.cells 4 d') cur, rfl, hb, ?_, hn, hm, by simpa [Sort.putCells] using hs, ?_⟩⟩
      · have : (putRow id (Sort.ahead w n) g 0 (flatK Bl.cells 4 d')).heap[g]? = some (.cells (Sort.putCells id 0 (flatK Bl.cells 4 d') cur) 93 (0, 0)) := by
          simp [putRow, mapBlock, Sort.ahead, Array.getElem?_modify, hg, onCells]
        show ((putRow id (Sort.ahead w n) g 0 (flatK Bl.cells 4 d')).heap ++ os)[g]? = _
        rw [Array.getElem?_append_left (lt_of_heap this)]
        exact this
      · apply List.ext_getElem?
        intro j
        rw [List.getElem?_take, Array.getElem?_toList]
        by_cases hj : j < acc.length * 4
        · have hjc : j < cur.size := by rw [hs]; omega
          rw [if_pos hj]
          simp only [Sort.putCells, Array.getElem?_mapIdx, Array.getElem?_eq_getElem hjc, Option.map_some]
          rw [if_pos (by rw [size_flatK, hsz]; omega), Nat.sub_zero, flatK_get d'.toList d' rfl j (by rw [hl2]; exact hj), List.getElem!_eq_getElem?_getD, List.getElem?_eq_getElem (by omega)]
          rfl
        · rw [if_neg hj, List.getElem?_eq_none (by omega)]
    · refine ⟨rfl, rfl, rfl, ?_, ?_⟩
      · show w.heap.size ≤ ((putRow id (Sort.ahead w n) g 0 (flatK Bl.cells 4 d')).heap ++ os).size
        simp [putRow, mapBlock, Sort.ahead]
      · intro k hk
        have hk2 : k < (putRow id (Sort.ahead w n) g 0 (flatK Bl.cells 4 d')).heap.size := by simp [putRow, mapBlock, Sort.ahead]; omega
        show ((putRow id (Sort.ahead w n) g 0 (flatK Bl.cells 4 d')).heap ++ os)[k]? = _
        rw [Array.getElem?_append_left hk2]
        simp [putRow, mapBlock, Sort.ahead, Array.getElem?_modify, show g ≠ k by omega]
theorem Tiles_any (cb jb mb n : Nat) (ver : Int) (T : List Bl) (w : World) (hc : CCell w cb jb mb ver) (hm : MapIs w mb n T) (hT : Sorted T) (hF : Fits T) (hn : n ≤ 1000000000) :
    Calls Tryz.prog 28 #[.pointer (some ⟨cb, 0, none⟩)] w (TilesPost T w) := Tiles_of sort_ok cb jb mb n ver T w hc hm hT hF hn
end Go.Proofs.YtjflcpkmoamijaaGreatDoor
namespace Go.Proofs.YtjflcpkmoamijaaGreatDoor
open Go.RowKit
set_option linter.unusedVariables false
set_option linter.unusedSimpArgs false
set_option linter.unnecessarySimpa false

/-! ### What the records of a cache's journal make: plain Lean -/
def sumS (l : List ByteArray) : Nat := (l.map (·.size)).sum
theorem sumS_app (l : List ByteArray) (s : ByteArray) : sumS (l ++ [s]) = sumS l + s.size := by simp [sumS]
theorem cnt_ge (n : Nat) : n ≤ 64 * cnt n := by unfold cnt; omega
theorem scan_size {D : Dev} {a h : Nat} : ∀ {k u : Nat} {l : List ByteArray} {u' : Nat} {l' : List ByteArray}, scanP D a h k u l = some (u', l') → u ≤ h → sumS l ≤ 64 * u → l.length ≤ u → u' ≤ h ∧ sumS l' ≤ 64 * u' ∧ l'.length ≤ u'
  | 0, u, l, u', l', e, hu, hs, hl => by simp [scanP] at e; obtain ⟨rfl, rfl⟩ := e; exact ⟨hu, hs, hl⟩
  | k + 1, u, l, u', l', e, hu, hs, hl => by
    unfold scanP at e
    split at e
    · simp at e; obtain ⟨rfl, rfl⟩ := e; exact ⟨hu, hs, hl⟩
    · split at e
      · simp at e; obtain ⟨rfl, rfl⟩ := e; exact ⟨hu, hs, hl⟩
      · split at e
        · cases e
        · rename_i n _
          split at e
          · cases e
          · rename_i hn
            have h1 := cnt_ge n
            refine scan_size e (by omega) ?_ (by simp; omega)
            rw [sumS_app]
            have : ((catS D (a + u + 1) (cnt n)).extract 0 n).size ≤ n := by simp only [ByteArray.size_extract]; omega
            omega
theorem parse_size {D : Dev} {ep u : Nat} {l : List ByteArray} (h : parseP D = some (ep, u, l)) : u ≤ hlf D ∧ sumS l ≤ 64 * u ∧ l.length ≤ u ∧ ep ≤ 2147483647 := by
  unfold parseP at h
  split at h
  · cases h
  · split at h
    · cases h
    · rename_i ep' hep
      rw [Option.map_eq_some_iff] at h
      obtain ⟨⟨u', l'⟩, hsc, e⟩ := h
      simp at e
      obtain ⟨rfl, rfl, rfl⟩ := e
      have := scan_size hsc (Nat.zero_le _) (by simp [sumS]) (by simp)
      exact ⟨this.1, this.2.1, this.2.2, numJ_le hep⟩
theorem nil_size (s : ByteArray) : (⟨#[]⟩ : ByteArray).size ≤ s.size := by
  have h0 : (⟨#[]⟩ : ByteArray).size = 0 := rfl
  omega
theorem textR_size (s : ByteArray) (a : Nat) (most : Int) : (textR s a most).1.size ≤ s.size := by
  unfold textR
  generalize countR s a most = c
  by_cases h1 : c.2.1 = 0
  · rw [if_pos h1]
    by_cases h2 : (s.size : Int) - c.2.2 < c.1
    · rw [if_pos h2]; exact nil_size s
    · rw [if_neg h2]
      show (s.extract _ _).size ≤ _
      simp only [ByteArray.size_extract]; omega
  · rw [if_neg h1]; exact nil_size s
theorem textM_size (s : ByteArray) (a : Nat) (er most : Int) : (textM s a er most).1.size ≤ s.size := by
  have h := textR_size s a most
  unfold textM
  generalize textR s a most = c at *
  by_cases h1 : er = 0
  · rw [if_pos h1]
    by_cases h2 : c.2.1 = 0
    · rw [if_pos h2]; exact h
    · rw [if_neg h2]; exact nil_size s
  · rw [if_neg h1]; exact nil_size s
theorem decLoop_len (s : ByteArray) : ∀ (n a : Nat) (er : Int) (l : List Bl), (decLoop s n a er l).2.length ≤ l.length + n
  | 0, a, er, l => by simp [decLoop]
  | n + 1, a, er, l => by
    unfold decLoop
    split
    · simp only [List.length_append, List.length_cons, List.length_nil]; omega
    · have := decLoop_len s n (rdText s a er).2.1 (rdText s a er).2.2 (l ++ [⟨rdTile s a er, (rdText s a er).1⟩])
      simp at this; omega
theorem decLoop_size (s : ByteArray) : ∀ (n a : Nat) (er : Int) (l : List Bl), (∀ b ∈ l, b.s.size ≤ s.size) → ∀ b ∈ (decLoop s n a er l).2, b.s.size ≤ s.size
  | 0, a, er, l, h => by simpa [decLoop] using h
  | n + 1, a, er, l, h => by
    have h2 : ∀ b ∈ l ++ [(⟨rdTile s a er, (rdText s a er).1⟩ : Bl)], b.s.size ≤ s.size := by
      intro b hb
      rcases List.mem_append.1 hb with hb | hb
      · exact h b hb
      · simp at hb; rw [hb]; exact textM_size _ _ _ _
    unfold decLoop
    split
    · exact h2
    · exact decLoop_size s n _ _ _ h2
theorem dec_len (s : ByteArray) (hs : s.size ≤ 1000000000) : (decP s).2.1.length ≤ s.size := by
  have h1 := decLoop_len s (countM s (uintM s 0 0).2.1 (uintM s 0 0).2.2 s.size).1.toNat (countM s (uintM s 0 0).2.1 (uintM s 0 0).2.2 s.size).2.1 (countM s (uintM s 0 0).2.1 (uintM s 0 0).2.2 s.size).2.2 []
  have h2 := countM_range (s := s) (a := (uintM s 0 0).2.1) (er := (uintM s 0 0).2.2) (most := s.size) (by omega) (by omega)
  show (decLoop _ _ _ _ _).2.length ≤ _
  simp at h1; omega
theorem ord_ok {l : List Bl} (h : ordB l = true) : ∀ b ∈ l, b.t.ok = true := by
  intro b hb
  obtain ⟨i, hi, rfl⟩ := List.getElem_of_mem hb
  unfold ordB at h
  rw [List.all_eq_true] at h
  have := h i (by simpa using hi)
  unfold goodAt at this
  rw [Bool.and_eq_true, tlAt_get hi] at this
  exact this.1
theorem ok_fits {t : Tl} (h : t.ok = true) : InInt t.z ∧ InInt t.x ∧ InInt t.y := by
  unfold Tl.ok at h
  simp at h
  obtain ⟨h1, h2, h3, h4, h5, h6⟩ := h
  have hz : t.z.toNat ≤ 7 := by omega
  have hp : (2 : Int) ^ t.z.toNat ≤ 128 := by
    rcases (by omega : t.z.toNat = 0 ∨ t.z.toNat = 1 ∨ t.z.toNat = 2 ∨ t.z.toNat = 3 ∨ t.z.toNat = 4 ∨ t.z.toNat = 5 ∨ t.z.toNat = 6 ∨ t.z.toNat = 7) with e | e | e | e | e | e | e | e <;> rw [e] <;> decide
  unfold InInt
  omega
theorem dec_fits {s : ByteArray} (hs : s.size ≤ 1000000000) (h : ordB (decP s).2.1 = true) : ∀ b ∈ (decP s).2.1, b.fits := by
  intro b hb
  have h1 := ok_fits (ord_ok h b hb)
  have h2 : b.s.size ≤ s.size := decLoop_size s _ _ _ [] (by simp) b hb
  exact ⟨h1.1, h1.2.1, h1.2.2, by omega⟩
def recOk (s : ByteArray) (ver : Int) : Bool := (decP s).2.2 && decide (ver < (decP s).1) && decide ((decP s).1 ≤ 2147483647) && ordB (decP s).2.1
def loadL : List ByteArray → Int → List Bl → Option (Int × List Bl)
  | [], v, T => some (v, T)
  | s :: r, v, T => if recOk s v then loadL r (decP s).1 (applyT T (decP s).2.1) else none
end Go.Proofs.YtjflcpkmoamijaaGreatDoor
namespace Go.Proofs.YtjflcpkmoamijaaGreatDoor
open Go.RowKit
set_option linter.unusedVariables false
set_option linter.unusedSimpArgs false
set_option linter.unnecessarySimpa false

theorem own_blobs {w : World} {B : Nat} {v : Value} {l : List Bl} (h : w.ownsRow B 93 4 v l.length (l.flatMap Bl.cells)) : BlobsAt w v l := by
  rcases h.2 with ⟨rfl, h0⟩ | ⟨g, cap, cur, rfl, hb, hg, hn, hm, hs, ht⟩
  · have : l = [] := List.eq_nil_of_length_eq_zero h0
    subst this
    exact ⟨⟨none, 0, rfl, fun h => absurd rfl h⟩, fun b o n c hv => by cases hv⟩
  · refine ⟨⟨_, cap, rfl, fun _ => ⟨g, 0, rfl⟩⟩, fun b o n c hv => ?_⟩
    injection hv with hv _ _
    injection hv with hv
    injection hv with h1 h2
    subst h1; subst h2
    intro j u hj
    have hj2 : j < l.length * 4 := by
      have := (List.getElem?_eq_some_iff.1 hj).1
      rw [flat_len Bl.cells 4 l (fun _ _ => rfl)] at this
      exact this
    have := World.ownsRow.cellAt h j hj2
    rw [Nat.zero_add, this]; exact hj
structure CIs (w : World) (B cb jb db mb n : Nat) (vr : Value) (ver : Int) (ep u : Nat) (l : List ByteArray) (T : List Bl) : Prop where
  c : CCell w cb jb mb ver
  j : JIs w B jb db vr ep u l
  m : MapIs w mb n T
  so : Sorted T
  fi : Fits T
theorem CIs.fr {w w' : World} {B cb jb db mb n : Nat} {vr : Value} {ver : Int} {ep u : Nat} {l : List ByteArray} {T : List Bl} {S : Nat → Prop} (h : CIs w B cb jb db mb n vr ver ep u l T) (k : Fr w w' S) (h1 : ¬ S cb) (h2 : ¬ S mb) (h3 : ∀ i, jfoot jb vr i → ¬ S i) : CIs w' B cb jb db mb n vr ver ep u l T :=
  ⟨h.c.fr k h1, h.j.fr k h3, h.m.fr k h2, h.so, h.fi⟩
theorem CIs.below {w w' : World} {B cb jb db mb n : Nat} {vr : Value} {ver : Int} {ep u : Nat} {l : List ByteArray} {T : List Bl} (h : CIs w B cb jb db mb n vr ver ep u l T) (k : Below w.heap.size w w') : CIs w' B cb jb db mb n vr ver ep u l T :=
  h.fr (Fr.of_below k Nowhere) (fun h => h) (fun h => h) (fun _ _ h => h)
structure OInv (w wr : World) (cb jb db mb n : Nat) (vr : Value) (ver : Int) (ep u : Nat) (l : List ByteArray) (T : List Bl) (v : Value) : Prop where
  ci : CIs wr w.heap.size cb jb db mb n vr ver ep u l T
  own : wr.ownsRow w.heap.size 9 1 v l.length (l.map .string)
  bel : Below w.heap.size w wr
theorem own_map_ne {w : World} {B b n : Nat} {T : List Bl} {e : TypeId} {size k : Nat} {v : Value} {xs : List Value} (h : w.ownsRow B e size v k xs) (hm : MapIs w b n T) {i : Nat} (hi : v.ownBlock = some i) : i ≠ b := by
  obtain ⟨c, hc⟩ := own_elem h hi
  exact hm.ne_cells hc
def COpenPost (D : Dev) (db : Nat) (w : World) (e : Ending) (w' : World) : Prop :=
  Below w.heap.size w w' ∧ (match parseP D with
    | none => e = .returned (.tuple #[.pointer none, .int .i64 4])
    | some (ep, u, l) => (match loadL l (-1) [] with
      | none => e = .returned (.tuple #[.pointer none, .int .i64 4])
      | some (ver, T) => ∃ cb jb mb n vr, e = .returned (.tuple #[.pointer (some ⟨cb, 0, none⟩), .int .i64 0]) ∧ w.heap.size ≤ cb ∧ w.heap.size ≤ jb ∧ w.heap.size ≤ mb ∧ n ≤ 100000000 ∧ CIs w' w.heap.size cb jb db mb n vr ver ep u l T))
theorem sumS_take_succ (l : List ByteArray) (i : Nat) (h : i < l.length) : sumS (l.take (i + 1)) = sumS (l.take i) + (l[i]).size := by
  rw [List.take_succ_eq_append_getElem h, sumS_app]
theorem sumS_take_le : ∀ (l : List ByteArray) (i : Nat), sumS (l.take i) ≤ sumS l
  | [], i => by simp
  | s :: r, 0 => by simp [sumS]
  | s :: r, i + 1 => by
    have := sumS_take_le r i
    simp [sumS] at *; omega
theorem COpen_nil (w : World) :
    Calls Tryz.prog 14 #[.pointer none] w fun e w' => e = .returned (.tuple #[.pointer none, .int .i64 1]) ∧ Below w.heap.size w w' := by
  go_enter Tryz.func14, Tryz.ntmps14
  go_wp2_with fail
  refine (JOpen_nil w).mono ?_
  rintro e w2 ⟨rfl, hb⟩
  go_wp2_with fail
  go_ret2
  exact ⟨rfl, hb⟩
theorem COpen_short (r : DRef) (D : Dev) (w : World) (h : DevIs w r D) (h5 : D.now.length < 5) :
    Calls Tryz.prog 14 #[.pointer (some ⟨r.b, 0, none⟩)] w fun e w' => e = .returned (.tuple #[.pointer none, .int .i64 12]) ∧ Below w.heap.size w w' := by
  have H := Lib.hid h
  clear h
  go_enter Tryz.func14, Tryz.ntmps14
  go_wp2_with fail
  refine (JOpen_short r D w H.out h5).mono ?_
  rintro e w2 ⟨rfl, hb⟩
  go_wp2_with fail
  go_ret2
  exact ⟨rfl, hb⟩
set_option maxHeartbeats 1000000 in
set_option maxRecDepth 100000 in
theorem COpen_any (r : DRef) (D : Dev) (w : World) (h : DevIs w r D) (h5 : 5 ≤ D.now.length) :
    Calls Tryz.prog 14 #[.pointer (some ⟨r.b, 0, none⟩)] w (COpenPost D r.b w) := by
  have hh := half_lt h
  have H := Lib.hid h
  clear h
  have hmm := @run_makeMap Tryz.prog
  go_enter Tryz.func14, Tryz.ntmps14
  go_wp2_with fail
  refine (JOpen_any r D w H.out h5).mono ?_
  rintro e w2 ⟨hb2, hp⟩
  have HB2 := Lib.hid hb2
  clear hb2
  rcases hpp : parseP D with _ | ⟨ep, u, l⟩
  · rw [hpp] at hp
    simp only at hp
    subst hp
    have HP : Hid (COpenPost D r.b w (.returned (.tuple #[.pointer none, .int .i64 4])) w2) := ⟨HB2.out, by rw [hpp]⟩
    clear hpp
    go_wp2_with fail
    go_ret2
    exact HP.out
  · rw [hpp] at hp
    obtain ⟨jb, vr, rfl, hjb, hj⟩ := hp
    have hps := parse_size hpp
    have hll : l.length ≤ 1000000 := by omega
    have hss : sumS l ≤ 64 * 32767 := by omega
    have HPP := Lib.hid hpp
    have HJ := Lib.hid hj
    have hjlt := hj.lt
    clear hpp hj hps
    go_wp2_with fail
    have j3 : JIs ((w2.alloc (.map #[] 0)).alloc (.cells #[.pointer (some ⟨jb, 0, none⟩), .int .i64 (-1), .map (some w2.heap.size)] 84)) w.heap.size jb r.b vr ep u l := HJ.out.fr (((Fr.refl _ Nowhere).alloc _).alloc _) (fun _ _ h => h)
    have m3 : MapIs ((w2.alloc (.map #[] 0)).alloc (.cells #[.pointer (some ⟨jb, 0, none⟩), .int .i64 (-1), .map (some w2.heap.size)] 84)) w2.heap.size 0 [] := (MapIs.made w2).fr ((Fr.refl _ Nowhere).alloc _) (fun h => h)
    have c3 : CCell ((w2.alloc (.map #[] 0)).alloc (.cells #[.pointer (some ⟨jb, 0, none⟩), .int .i64 (-1), .map (some w2.heap.size)] 84)) (w2.heap.size + 1) jb w2.heap.size (-1) := by
      have := heap_alloc_new (w2.alloc (.map #[] 0)) (.cells #[.pointer (some ⟨jb, 0, none⟩), .int .i64 (-1), .map (some w2.heap.size)] 84)
      simp only [World.size_alloc] at this
      exact this
    have b3 : Below w.heap.size w ((w2.alloc (.map #[] 0)).alloc (.cells #[.pointer (some ⟨jb, 0, none⟩), .int .i64 (-1), .map (some w2.heap.size)] 84)) := (HB2.out.alloc HB2.out.size _).alloc (by have := HB2.out.size; simp; omega) _
    have CI3 : Hid (CIs ((w2.alloc (.map #[] 0)).alloc (.cells #[.pointer (some ⟨jb, 0, none⟩), .int .i64 (-1), .map (some w2.heap.size)] 84)) w.heap.size (w2.heap.size + 1) jb r.b w2.heap.size 0 vr (-1) ep u l []) :=
      ⟨c3, j3, m3, List.Pairwise.nil, fun b hb => by cases hb⟩
    have B3 := Lib.hid b3
    have hs2 := HB2.out.size
    clear j3 m3 c3 b3 HJ HB2 hjlt
    generalize (w2.alloc (.map #[] 0)).alloc (.cells #[.pointer (some ⟨jb, 0, none⟩), .int .i64 (-1), .map (some w2.heap.size)] 84) = w3 at *
    obtain ⟨mb, hmb⟩ : ∃ mb, mb = w2.heap.size := ⟨_, rfl⟩
    obtain ⟨cb, hcb⟩ : ∃ cb, cb = w2.heap.size + 1 := ⟨_, rfl⟩
    rw [← hcb, ← hmb] at CI3 ⊢
    have hcb1 : w.heap.size ≤ cb := by omega
    have hmb1 : w.heap.size ≤ mb := by omega
    clear hcb hmb hs2
    refine (JRecords_any jb r.b w.heap.size ep u vr l w3 CI3.out.j hll).mono ?_
    rintro e w4 ⟨v', rfl, ho, hb⟩
    have I4 : Hid (OInv w w4 cb jb r.b mb 0 vr (-1) ep u l [] v') := ⟨CI3.out.below hb, own_base_le B3.out.size ho, B3.out.trans (hb.mono B3.out.size)⟩
    clear ho hb CI3 B3 w3
    obtain ⟨ao, cap, rfl⟩ : ∃ ao cap, v' = .slice ao l.length cap := by
      rcases I4.out.own.2 with ⟨hv, h0⟩ | ⟨g, cap, cur, hv, _⟩
      · exact ⟨none, 0, by rw [hv, h0]⟩
      · exact ⟨_, cap, hv⟩
    go_wp2_with fail
    go_loopw [27] (fun v wr => ∃ (i : Nat) (ver : Int) (T : List Bl) (n : Nat), v = .int .i64 i ∧ i ≤ l.length ∧ Hid (loadL l (-1) [] = loadL (l.drop i) ver T) ∧ n ≤ sumS (l.take i) ∧ Hid (OInv w wr cb jb r.b mb n vr ver ep u l T (.slice ao l.length cap))) (fun v _ => l.length - (intOf v).toNat)
    case atStart => exact ⟨0, -1, [], 0, rfl, by omega, rfl, by simp [sumS], I4.out⟩
    case round =>
      obtain ⟨i, ver, T, n, rfl, hi, hL, hn, hI⟩ := hrel
      by_cases hic : i < l.length
      · have hic' : (i : Int) < (l.length : Int) := by omega
        obtain ⟨g, rfl⟩ : ∃ g, ao = some ⟨g, 0, none⟩ := by
          rcases hI.out.own.2 with ⟨_, h0⟩ | ⟨g, cap', cur, hv, _⟩
          · omega
          · injection hv with hv; exact ⟨g, hv⟩
        have k0 := hI.out.own.cellAt i (by omega)
        rw [List.getElem?_map, List.getElem?_eq_getElem hic] at k0
        simp only [Option.map_some] at k0
        have hsum := sumS_take_succ l i hic
        have hsum2 := sumS_take_le l (i + 1)
        have hstep : loadL (l.drop i) ver T = if recOk (l[i]) ver then loadL (l.drop (i + 1)) (decP (l[i])).1 (applyT T (decP (l[i])).2.1) else none := by
          rw [List.drop_eq_getElem_cons hic, loadL]
        have HST := Lib.hid hstep
        clear hstep
        generalize l[i] = s at *
        have hsz : s.size ≤ 1000000000 := by omega
        have hdl := dec_len s hsz
        have hdf := Lib.hid (dec_fits hsz)
        go_wp2_with fail
        refine (decode_any s wr hsz).mono ?_
        rintro e w5 ⟨v5, rfl, o5, b5⟩
        have B5 := Lib.hid b5
        have HB5 := Lib.hid (hI.out.bel.trans (b5.mono hI.out.bel.size))
        have CI5 := Lib.hid (hI.out.ci.below b5)
        have R5 := Lib.hid ((Fr.of_below b5 Nowhere).owns hI.out.own (fun _ _ h => h))
        have O5 := Lib.hid o5
        have hro : recOk s ver = ((decP s).2.2 && decide (ver < (decP s).1) && decide ((decP s).1 ≤ 2147483647) && ordB (decP s).2.1) := rfl
        have HRO := Lib.hid hro
        clear b5 o5 k0 hI hro
        generalize decP s = dp at *
        obtain ⟨dv, dl, dok⟩ := dp
        simp only at hdl hdf HST O5 HRO
        have hbad : recOk s ver = false → Hid (COpenPost D r.b w (.returned (.tuple #[.pointer none, .int .i64 4])) w5) := by
          intro hf
          refine ⟨HB5.out, ?_⟩
          rw [HPP.out]
          simp only
          rw [hL.out, HST.out, hf]
          simp
        have c1 := CI5.out.c.c1
        cases dok
        · have HP := hbad (by rw [HRO.out]; simp)
          clear hbad
          go_wp2_with fail
          go_ret2
          exact HP.out
        · by_cases h1 : dv ≤ ver
          · have HP := hbad (by rw [HRO.out]; simp; intros; omega)
            clear hbad
            go_wp2_with fail
            go_ret2
            exact HP.out
          · by_cases h2 : 2147483647 < dv
            · have HP := hbad (by rw [HRO.out]; simp; intros; omega)
              clear hbad
              go_wp2_with fail
              go_ret2
              exact HP.out
            · have hord := Lib.hid (ordered_any v5 dl w5 (own_blobs O5.out) (by omega))
              have HBAD := Lib.hid hbad
              clear hbad
              rcases hob : ordB dl with _ | _
              · have HP := HBAD.out (by rw [HRO.out, hob]; simp)
                go_wp2_with (go_at_call 47; refine hord.out.mono ?_; rintro e w6 ⟨rfl, b6⟩; rw [hob])
                go_ret2
                refine ⟨HP.out.1.trans (b6.mono HP.out.1.size), ?_⟩
                rw [HPP.out]
                have h3 := HP.out.2
                rw [HPP.out] at h3
                simp only at h3 ⊢
                cases hll : loadL l (-1) [] with
                | none => rfl
                | some q =>
                  rw [hll] at h3
                  simp at h3
              · have hf := hdf.out hob
                have hnl : n + dl.length ≤ 1000000000 := by omega
                have hnext : Hid (loadL l (-1) [] = loadL (l.drop (i + 1)) dv (applyT T dl)) := by
                  show _ = _
                  rw [hL.out, HST.out, HRO.out, hob, if_pos (by simp; omega)]
                have hnn : n + dl.length ≤ sumS (l.take (i + 1)) := by omega
                have HFF := Lib.hid hf
                clear hf
                go_wp2_with (first
                  | (go_at_call 47; refine hord.out.mono ?_; rintro e w6 ⟨rfl, b6⟩; rw [hob])
                  | (go_at_call 48
                     have CI6 := CI5.out.below b6
                     have O6 := (Fr.of_below b6 Nowhere).owns O5.out (fun _ _ h => h)
                     refine (apply_any cb jb mb n ver dv v5 T dl w6 CI6.c CI6.m (own_blobs O6) (fun _ e => own_ne O6 CI6.c (by decide) e rfl) HFF.out hnl).mono ?_
                     rintro e w7 ⟨rfl, hc7, hm7, hf7⟩
                     have R6 := (Fr.of_below b6 Nowhere).owns R5.out (fun _ _ h => h)
                     have HI7 : Hid (OInv w w7 cb jb r.b mb (n + dl.length) vr dv ep u l (applyT T dl) (.slice (some ⟨g, 0, none⟩) l.length cap)) := by
                       refine ⟨⟨hc7, CI6.j.fr hf7 ?_, hm7, CI6.so.apply _, CI6.fi.apply HFF.out⟩, hf7.owns R6 ?_, (HB5.out.trans (b6.mono HB5.out.size)).trans (hf7.below (Nat.le_trans HB5.out.size b6.size) (by rintro k (rfl | rfl) <;> assumption))⟩
                       · rintro k (rfl | hk) (e | e)
                         · exact ne_of_elem CI6.j.hb CI6.c (by decide) e
                         · exact CI6.m.ne_cells CI6.j.hb e
                         · exact own_ne CI6.j.hr CI6.c (by decide) hk e
                         · exact own_map_ne CI6.j.hr CI6.m hk e
                       · rintro k hk (e | e)
                         · exact own_ne R6 CI6.c (by decide) hk e
                         · exact own_map_ne R6 CI6.m hk e
                     clear hc7 hm7 hf7 CI6 O6 R6))
                go_roundw
                case rel => exact ⟨i + 1, dv, _, n + dl.length, by go_num, by omega, hnext.out, hnn, HI7.out⟩
                case measure => simp [intOf]; omega
      · have hic' : ¬ (i : Int) < (l.length : Int) := by omega
        go_wp2_with fail
        go_ret2
        refine ⟨hI.out.bel, ?_⟩
        rw [HPP.out]
        simp only
        rw [hL.out, List.drop_eq_nil_of_le (by omega)]
        simp only [loadL]
        have := sumS_take_le l i
        exact ⟨cb, jb, mb, n, vr, rfl, hcb1, hjb, hmb1, by omega, hI.out.ci⟩
end Go.Proofs.YtjflcpkmoamijaaGreatDoor
namespace Go.Proofs.YtjflcpkmoamijaaGreatDoor
open Go.RowKit
set_option linter.unusedVariables false
set_option linter.unusedSimpArgs false
set_option linter.unnecessarySimpa false

/-- A cache, as an operation finds and leaves it. -/
structure Cn where
  J : Jn
  ver : Int
  T : List Bl
def putC (C : Cn) (ver : Int) (l : List Bl) : Cn × Int :=
  if ver ≤ C.ver ∨ 2147483647 < ver then (C, 21) else if ordB l = false then (C, 6) else
  if (appendP C.J (encP ver l)).2 then (⟨(appendP C.J (encP ver l)).1, ver, applyT C.T l⟩, 0) else (⟨(appendP C.J (encP ver l)).1, C.ver, C.T⟩, 20)
def cfoot (r : DRef) (cb jb mb : Nat) (vr : Value) (k : Nat) : Prop := r.foot k ∨ k = cb ∨ k = mb ∨ jfoot jb vr k
def CIn (w : World) (B : Nat) (r : DRef) (cb jb mb n : Nat) (vr : Value) (C : Cn) : Prop :=
  DevIs w r C.J.D ∧ CIs w B cb jb r.b mb n vr C.ver C.J.ep C.J.u C.J.l C.T
def CaPost (r : DRef) (cb jb mb B n : Nat) (vr : Value) (x : Cn × Int) (w : World) (e : Ending) (w' : World) : Prop :=
  e = .returned (.int .i64 x.2) ∧ ∃ r' vr' n', n' ≤ n ∧ CIn w' B r' cb jb mb n' vr' x.1 ∧ r'.b = r.b ∧ Fr w w' (cfoot r cb jb mb vr) ∧ (∀ k, k < w.heap.size → cfoot r' cb jb mb vr' k → cfoot r cb jb mb vr k)
theorem map_dev_ne {w : World} {r : DRef} {D : Dev} {mb n : Nat} {T : List Bl} (d : DevIs w r D) (hm : MapIs w mb n T) : ¬ r.foot mb := by
  rintro (e | e | e | e)
  · exact hm.ne_cells d.hb e.symm
  · exact hm.ne_cells d.hf e.symm
  · exact hm.ne_cells d.hn e.symm
  · exact own_map_ne d.hl hm e rfl
theorem cc_dev_ne {w : World} {r : DRef} {D : Dev} {cb jb mb : Nat} {ver : Int} (d : DevIs w r D) (hc : CCell w cb jb mb ver) : ¬ r.foot cb := by
  rintro (e | e | e | e)
  · exact ne_of_elem hc d.hb (by decide) e
  · exact ne_of_elem hc d.hf (by decide) e
  · exact ne_of_elem hc d.hn (by decide) e
  · exact own_ne d.hl hc (by decide) e rfl
theorem cc_j_ne {w : World} {B cb jb db mb' jb' : Nat} {ver : Int} {vr : Value} {ep u : Nat} {l : List ByteArray} (j : JIs w B jb db vr ep u l) (hc : CCell w cb jb' mb' ver) : ¬ jfoot jb vr cb := by
  rintro (e | e)
  · exact ne_of_elem hc j.hb (by decide) e
  · exact own_ne j.hr hc (by decide) e rfl
theorem map_j_ne {w : World} {B jb db mb n : Nat} {vr : Value} {ep u : Nat} {l : List ByteArray} {T : List Bl} (j : JIs w B jb db vr ep u l) (hm : MapIs w mb n T) : ¬ jfoot jb vr mb := by
  rintro (e | e)
  · exact hm.ne_cells j.hb e.symm
  · exact own_map_ne j.hr hm e rfl
theorem fold_enc_size : ∀ (l : List Bl) (s : ByteArray), (∀ b ∈ l, b.fits) → (l.foldl encOne s).size ≤ s.size + l.length * 4294967336
  | [], s, _ => by simp
  | x :: l, s, h => by
    have h1 := encOne_size s x (h x List.mem_cons_self)
    have h2 := fold_enc_size l (encOne s x) (fun b hb => h b (List.mem_cons_of_mem _ hb))
    simp only [List.foldl_cons, List.length_cons]
    omega
theorem encP_size (ver : Int) (l : List Bl) (h : ∀ b ∈ l, b.fits) : (encP ver l).size ≤ 20 + l.length * 4294967336 := by
  have h1 := encStart_size ver l.length
  have h2 := fold_enc_size l (app (putI ⟨#[]⟩ ver) (encU l.length)) h
  unfold encP; omega
theorem Version_nil (w : World) : Calls Tryz.prog 27 #[.pointer none] w fun e w' => e = .returned (.int .i64 (-1)) ∧ w' = w := by
  go_enter Tryz.func27, Tryz.ntmps27
  go_wp2
  go_ret
  exact ⟨rfl, rfl⟩
theorem Version_any (cb jb mb : Nat) (ver : Int) (w : World) (h : CCell w cb jb mb ver) : Calls Tryz.prog 27 #[.pointer (some ⟨cb, 0, none⟩)] w fun e w' => e = .returned (.int .i64 ver) ∧ w' = w := by
  have c1 := h.c1
  clear h
  go_enter Tryz.func27, Tryz.ntmps27
  go_wp2
  go_ret
  exact ⟨rfl, rfl⟩
theorem Tiles_nil (w : World) : Calls Tryz.prog 28 #[.pointer none] w fun e w' => e = .returned (.slice none 0 0) ∧ w' = w := by
  go_enter Tryz.func28, Tryz.ntmps28
  go_wp2
  go_ret
  exact ⟨rfl, rfl⟩
theorem Put_nil (ver : Int) (v : Value) (w : World) : Calls Tryz.prog 22 #[.pointer none, .int .i64 ver, v] w fun e w' => e = .returned (.int .i64 1) ∧ w' = w := by
  go_enter Tryz.func22, Tryz.ntmps22
  go_wp2
  go_ret
  exact ⟨rfl, rfl⟩
theorem Compact_nil (w : World) : Calls Tryz.prog 24 #[.pointer none] w fun e w' => e = .returned (.int .i64 1) ∧ w' = w := by
  go_enter Tryz.func24, Tryz.ntmps24
  go_wp2
  go_ret
  exact ⟨rfl, rfl⟩
theorem JFormat_nil (w : World) : Calls Tryz.prog 11 #[.pointer none] w fun e w' => e = .returned (.int .i64 1) ∧ w' = w := by
  go_enter Tryz.func11, Tryz.ntmps11
  go_wp2_with (refine (check_nil _).mono ?_; rintro e w2 ⟨rfl, rfl⟩)
  go_ret
  exact ⟨rfl, rfl⟩
theorem CFormat_nil (w : World) : Calls Tryz.prog 20 #[.pointer none] w fun e w' => e = .returned (.int .i64 1) ∧ w' = w := by
  go_enter Tryz.func20, Tryz.ntmps20
  go_wp2_with (refine (JFormat_nil _).mono ?_; rintro e w2 ⟨rfl, rfl⟩)
  go_ret
  exact ⟨rfl, rfl⟩
theorem CFormat_any (r : DRef) (D : Dev) (w : World) (h : DevIs w r D) (hl : D.lim = false) (h5 : 5 ≤ D.now.length) (hlog : D.log.length ≤ 1000000) :
    Calls Tryz.prog 20 #[.pointer (some ⟨r.b, 0, none⟩)] w (FPost r 0 D.format w) := by
  have hf := Lib.hid (Format_any r D w h hl h5 hlog)
  clear h
  go_enter Tryz.func20, Tryz.ntmps20
  go_wp2_with (refine hf.out.mono ?_; rintro e w2 ⟨rfl, h2⟩; have H2 := Lib.hid h2; clear h2)
  go_ret
  exact ⟨rfl, H2.out⟩
set_option maxHeartbeats 1000000 in
set_option maxRecDepth 100000 in
theorem Put_any (r : DRef) (cb jb mb B n : Nat) (vr : Value) (C : Cn) (ver : Int) (v : Value) (l : List Bl) (w : World) (h : CIn w B r cb jb mb n vr C) (hB : B ≤ w.heap.size) (hb : BlobsAt w v l)
    (hne : l ≠ [] → ∀ k, v.ownBlock = some k → ¬ cfoot r cb jb mb vr k) (hv : InInt ver) (hl : l.length ≤ 1000) (hsz : ∀ b ∈ l, b.s.size ≤ 4294967296) (hn : n ≤ 900000000) (hu : C.J.u ≤ 100000) (hlog : C.J.D.log.length ≤ 1000000) (hlr : C.J.l.length ≤ 1000000) :
    Calls Tryz.prog 22 #[.pointer (some ⟨cb, 0, none⟩), .int .i64 ver, v] w (CaPost r cb jb mb B (n + 1000) vr (putC C ver l) w) := by
  obtain ⟨J, ver0, T⟩ := C
  obtain ⟨hd, hc⟩ := h
  simp only at hd hc hu hlog hlr
  have c0 := hc.c.c0
  have c1 := hc.c.c1
  have same : ∀ (w' : World) (e0 : Int), Below w.heap.size w w' → CaPost r cb jb mb B (n + 1000) vr (⟨J, ver0, T⟩, e0) w (.returned (.int .i64 e0)) w' := by
    intro w' e0 hb'
    exact ⟨rfl, r, vr, n, by omega, ⟨hd.below hb', hc.below hb'⟩, rfl, Fr.of_below hb' _, fun _ _ h => h⟩
  have HS := Lib.hid same
  have HD := Lib.hid hd
  have HC := Lib.hid hc
  have HB := Lib.hid hb
  have HNE := Lib.hid hne
  have HV := Lib.hid hv
  have HSZ := Lib.hid hsz
  clear same hd hc hb hne hv hsz
  by_cases h1 : ver ≤ ver0
  · have hp : putC ⟨J, ver0, T⟩ ver l = (⟨J, ver0, T⟩, 21) := if_pos (.inl h1)
    rw [hp]
    clear hp
    go_enter Tryz.func22, Tryz.ntmps22
    go_wp2_with fail
    go_ret
    exact HS.out _ _ (Below.refl _ _)
  · by_cases h2 : 2147483647 < ver
    · have hp : putC ⟨J, ver0, T⟩ ver l = (⟨J, ver0, T⟩, 21) := if_pos (.inr h2)
      rw [hp]
      clear hp
      go_enter Tryz.func22, Tryz.ntmps22
      go_wp2_with fail
      go_ret
      exact HS.out _ _ (Below.refl _ _)
    · have hord := Lib.hid (ordered_any v l w HB.out (by omega))
      rcases hob : ordB l with _ | _
      · have hp : putC ⟨J, ver0, T⟩ ver l = (⟨J, ver0, T⟩, 6) := by unfold putC; rw [if_neg (by simp; omega), if_pos hob]
        rw [hp]
        clear hp
        go_enter Tryz.func22, Tryz.ntmps22
        go_wp2_with (go_at_call 47; refine hord.out.mono ?_; rintro e w6 ⟨rfl, b6⟩; rw [hob])
        go_ret
        exact HS.out _ _ b6
      · have hp : Hid (putC ⟨J, ver0, T⟩ ver l = if (appendP J (encP ver l)).2 then (⟨(appendP J (encP ver l)).1, ver, applyT T l⟩, 0) else (⟨(appendP J (encP ver l)).1, ver0, T⟩, 20)) := by
          show _ = _; unfold putC; rw [if_neg (by simp; omega), if_neg (by simp [hob])]
        have hf : Hid (∀ b ∈ l, b.fits) := by
          intro b hb
          have h1 := ok_fits (ord_ok hob b hb)
          exact ⟨h1.1, h1.2.1, h1.2.2, HSZ.out b hb⟩
        have hes := encP_size ver l hf.out
        go_enter Tryz.func22, Tryz.ntmps22
        go_wp2_with (go_at_call 47; refine hord.out.mono ?_; rintro e w6 ⟨rfl, b6⟩; rw [hob]; have B6 := Lib.hid b6; clear b6)
        have C6 := Lib.hid (HC.out.below B6.out)
        have D6 := Lib.hid (HD.out.below B6.out)
        have V6 := Lib.hid (HB.out.fr (Fr.of_below B6.out Nowhere) (fun _ _ h => h))
        clear c0 c1
        have c0 := C6.out.c.c0
        refine region_seq (fun w' => w'.cell? ⟨cb, 0, none⟩ = some (.pointer (some ⟨jb, 0, none⟩))) []
          [(.p, 0), (.p, 1), (.p, 2), (.q, 3), (.p, 4), (.p, 5), (.l, 6), (.l, 7), (.p, 8)] (by kernel_rfl) (by kernel_rfl) (by kernel_rfl) (by kernel_rfl) (fun d v c a w h => by cases d <;> exact h) ?_
        have hS : w6.drew.cell? ⟨cb, 0, none⟩ = some (.pointer (some ⟨jb, 0, none⟩)) := c0
        (refine seq_p (N := some 23) rfl rfl (by rfl) ?_ (fun w' => ?_) ?_
         rotate_left
         · go_simp
           with_reducible rfl
         simp only [Act.put, List.setIfInBounds_toArray, List.set_cons_zero, List.set_cons_succ])
        (refine seq_p (N := some 24) rfl rfl (by rfl) ?_ (fun w' => ?_) ?_
         rotate_left
         · go_simp
           with_reducible rfl
         simp only [Act.put, List.setIfInBounds_toArray, List.set_cons_zero, List.set_cons_succ])
        (refine seq_p (N := some 25) rfl rfl (by rfl) ?_ (fun w' => ?_) ?_
         rotate_left
         · go_simp
           with_reducible rfl
         simp only [Act.put, List.setIfInBounds_toArray, List.set_cons_zero, List.set_cons_succ])
        (refine seq_q (N := some 26) rfl rfl (by rfl) ?_ ?_ hS ?_
         rotate_left
         · rintro w' s1
           go_simp
           with_reducible rfl
         simp only [Act.put, List.setIfInBounds_toArray, List.set_cons_zero, List.set_cons_succ])
        (refine seq_p (N := some 27) rfl rfl (by rfl) ?_ (fun w' => ?_) ?_
         rotate_left
         · go_simp
           with_reducible rfl
         simp only [Act.put, List.setIfInBounds_toArray, List.set_cons_zero, List.set_cons_succ])
        (refine seq_p (N := some 28) rfl rfl (by rfl) ?_ (fun w' => ?_) ?_
         rotate_left
         · go_simp
           with_reducible rfl
         simp only [Act.put, List.setIfInBounds_toArray, List.set_cons_zero, List.set_cons_succ])
        refine seq_l rfl (by rfl) (wp_cl (N := some 29) (f := 55) (vs := #[.int .i64 ver, v]) rfl rfl (by simp [Act.eval]) (callF Tryz.func55 rfl (by decide) _ _) ?_)
        refine (encode_any ver v l w6.drew (V6.out.drewN 1) HV.out hl hf.out).mono ?_
        rintro e w7 ⟨rfl, b7⟩
        have b7' : Below w6.heap.size w6 w7 := ((Below.refl w6.heap.size w6).drew).trans (by exact b7)
        have B7 := Lib.hid (B6.out.trans (b7'.mono B6.out.size))
        have C7 := Lib.hid (C6.out.below b7')
        have D7 := Lib.hid (D6.out.below b7')
        have V7 := Lib.hid (V6.out.fr (Fr.of_below b7' Nowhere) (fun _ _ h => h))
        refine ⟨_, rfl, ?_⟩
        simp only [Act.put, List.setIfInBounds_toArray, List.set_cons_zero, List.set_cons_succ]
        refine ⟨fun _ => C7.out.c.c0, ?_⟩
        clear b7 b7'
        refine seq_l rfl (by rfl) (wp_cl (N := some 30) (f := 13) (vs := #[.pointer (some ⟨jb, 0, none⟩), .string (encP ver l)]) rfl rfl (by simp [Act.eval]) (callF Tryz.func13 rfl (by decide) _ _) ?_)
        refine (Append_any r J jb B vr (encP ver l) w7 D7.out C7.out.j (Nat.le_trans hB B7.out.size) (by omega) hu hlog hlr).mono ?_
        rintro e w8 ⟨rfl, r8, vr8, d8, j8, e8, f8, s8, t8⟩
        have nc := cc_dev_ne D7.out C7.out.c
        have nm := map_dev_ne D7.out C7.out.m
        have ncj := cc_j_ne C7.out.j C7.out.c
        have nmj := map_j_ne C7.out.j C7.out.m
        have c8 : CCell w8 cb jb mb ver0 := C7.out.c.fr f8 (fun h => h.elim nc ncj)
        have m8 : MapIs w8 mb n T := C7.out.m.fr f8 (fun h => h.elim nm nmj)
        have v8 : BlobsAt w8 v l := V7.out.fr0 f8 (fun h0 k hk h => HNE.out h0 k hk (h.elim .inl (fun h => .inr (.inr (.inr h)))))
        have F8 : Fr w w8 (cfoot r cb jb mb vr) := (Fr.of_below B7.out _).trans f8 (fun k _ h => h.elim .inl (fun h => .inr (.inr (.inr h))))
        have S8 : ∀ k, k < w.heap.size → cfoot r8 cb jb mb vr8 k → cfoot r cb jb mb vr k := by
          intro k hk h
          have hk7 : k < w7.heap.size := Nat.lt_of_lt_of_le hk B7.out.size
          rcases h with h | h | h | h
          · exact .inl (s8 k hk7 h)
          · exact .inr (.inl h)
          · exact .inr (.inr (.inl h))
          · exact .inr (.inr (.inr (t8 k hk7 h)))
        have D8 := Lib.hid d8
        have J8 := Lib.hid j8
        have C8 := Lib.hid c8
        have M8 := Lib.hid m8
        have V8 := Lib.hid v8
        have HF8 := Lib.hid F8
        have HS8 := Lib.hid S8
        refine ⟨_, rfl, ?_⟩
        simp only [Act.put, List.setIfInBounds_toArray, List.set_cons_zero, List.set_cons_succ]
        refine ⟨fun _ => C8.out.c0, ?_⟩
        clear d8 j8 f8 s8 t8 nc nm ncj nmj c8 m8 v8 F8 S8 hS c0
        (refine seq_p (N := some 7) rfl rfl (by rfl) ?_ (fun w' => ?_) ?_
         rotate_left
         · go_simp
           with_reducible rfl
         simp only [Act.put, List.setIfInBounds_toArray, List.set_cons_zero, List.set_cons_succ])
        refine seq_nil ?_
        rcases hap : (appendP J (encP ver l)).2 with _ | _
        · have HP : Hid (CaPost r cb jb mb B (n + 1000) vr (putC ⟨J, ver0, T⟩ ver l) w (.returned (.int .i64 20)) w8) := by
            show CaPost _ _ _ _ _ _ _ _ _ _ _
            rw [hp.out, hap, if_neg (by simp)]
            refine ⟨rfl, r8, vr8, n, by omega, ⟨D8.out, ⟨C8.out, ?_, M8.out, HC.out.so, HC.out.fi⟩⟩, e8, HF8.out, HS8.out⟩
            rw [e8]; exact J8.out
          simp only [okE, Bool.false_eq_true, if_false]
          go_wp2_with fail
          go_ret
          exact HP.out
        · have hJne : l ≠ [] → v.ownBlock ≠ some cb := fun h0 e => HNE.out h0 cb e (.inr (.inl rfl))
          simp only [okE, if_true]
          go_wp2_with fail
          refine (apply_any cb jb mb n ver0 ver v T l w8 C8.out M8.out V8.out hJne hf.out (by omega)).mono ?_
          rintro e w9 ⟨rfl, c9, m9, f9⟩
          have HP : Hid (CaPost r cb jb mb B (n + 1000) vr (putC ⟨J, ver0, T⟩ ver l) w (.returned (.int .i64 0)) w9) := by
            show CaPost _ _ _ _ _ _ _ _ _ _ _
            rw [hp.out, hap, if_pos rfl]
            refine ⟨rfl, r8, vr8, n + l.length, by omega, ⟨D8.out.fr f9 ?_, ⟨c9, ?_, m9, HC.out.so.apply _, HC.out.fi.apply hf.out⟩⟩, e8, HF8.out.trans f9 (fun k _ h => h.elim (fun h => .inr (.inl h)) (fun h => .inr (.inr (.inl h)))), HS8.out⟩
            · rintro k hk (rfl | rfl)
              · exact cc_dev_ne D8.out C8.out hk
              · exact map_dev_ne D8.out M8.out hk
            · rw [e8]
              refine J8.out.fr f9 ?_
              rintro k hk (rfl | rfl)
              · exact cc_j_ne J8.out C8.out hk
              · exact map_j_ne J8.out M8.out hk
          clear c9 m9 f9
          go_wp2_with fail
          go_ret
          exact HP.out
end Go.Proofs.YtjflcpkmoamijaaGreatDoor
namespace Go.Proofs.YtjflcpkmoamijaaGreatDoor
open Go.RowKit
set_option linter.unusedVariables false
set_option linter.unusedSimpArgs false
set_option linter.unnecessarySimpa false

def dv0 : Dev := (Dev.fresh 9).format
def cn0 : Cn := ⟨⟨dv0, 0, 0, []⟩, -1, []⟩
def bx : List Bl := [⟨⟨0, 0, 0⟩, ⟨#[120]⟩⟩]
def be : List Bl := [⟨⟨0, 0, 0⟩, ⟨#[]⟩⟩]
theorem lv0 : (parseP dv0).map (fun x => (x.1, x.2.1, x.2.2.length)) = some (0, 0, 0) := by kernel_rfl
theorem lv1 : (putC cn0 0 bx).2 = 0 := by kernel_rfl
def cn1 : Cn := (putC cn0 0 bx).1
theorem lv1T : cn1.T = bx := by kernel_rfl
theorem lv2 : (putC cn1 1 be).2 = 0 := by kernel_rfl
def cn2 : Cn := (putC cn1 1 be).1
theorem lv2T : cn2.T = [] := by kernel_rfl
theorem lv2v : cn2.ver = 1 := by kernel_rfl
theorem lv1v : cn1.ver = 0 := by kernel_rfl
theorem lv3 : ((parseP cn2.J.D).bind fun x => loadL x.2.2 (-1) []) = some (1, []) := by kernel_rfl
theorem lv0' : parseP dv0 = some (0, 0, []) := by kernel_rfl
theorem lvn : cn1.J.u ≤ 100000 ∧ cn1.J.D.log.length ≤ 1000000 ∧ cn1.J.l.length ≤ 1000000 ∧ cn2.J.D.now.length = 9 := ⟨of_decide_eq_true (by kernel_rfl), of_decide_eq_true (by kernel_rfl), of_decide_eq_true (by kernel_rfl), by kernel_rfl⟩
def StartPost (C : Cn) (w : World) (e : Ending) (w' : World) : Prop :=
  ∃ r cb jb mb n vr, e = .returned (.tuple #[.pointer (some ⟨r.b, 0, none⟩), .pointer (some ⟨cb, 0, none⟩), .bool true]) ∧ CIn w' w.heap.size r cb jb mb n vr C ∧ n ≤ 100000000 ∧ Below w.heap.size w w' ∧ ∀ k, cfoot r cb jb mb vr k → w.heap.size ≤ k
set_option maxHeartbeats 1000000 in
set_option maxRecDepth 100000 in
theorem start_any (n : Nat) (w : World) (h5 : 5 ≤ n) (h6 : n ≤ 65536) (hp : parseP (Dev.fresh n).format = some (0, 0, [])) :
    Calls Tryz.prog 26 #[.int .i64 n] w (StartPost ⟨⟨(Dev.fresh n).format, 0, 0, []⟩, -1, []⟩ w) := by
  have HP := Lib.hid hp
  have hlen : (Dev.fresh n).now.length = n := by simp [Dev.fresh]
  have hlenf : (Dev.fresh n).format.now.length = n := by simp [Dev.format, Dev.write, Dev.fresh]
  have hlog : (Dev.fresh n).log.length = 0 := rfl
  have hlim : (Dev.fresh n).lim = false := rfl
  have HN := Lib.hid (New_any n w (by omega) h6)
  clear hp
  generalize (Dev.fresh n) = D0 at *
  go_enter Tryz.func26, Tryz.ntmps26
  go_wp2_with fail
  refine HN.out.mono ?_
  rintro e w2 ⟨r, rfl, d2, b2, hr2⟩
  have D2 := Lib.hid d2
  have B2 := Lib.hid b2
  have R2 := Lib.hid hr2
  clear d2 b2 hr2
  go_wp2_with fail
  refine (CFormat_any r D0 w2 D2.out hlim (by omega) (by omega)).mono ?_
  rintro e w3 ⟨rfl, r3, d3, k3⟩
  have hrb := k3.b
  have hb3 : Below w.heap.size w w3 := B2.out.trans (k3.fr.below B2.out.size (fun i hi => R2.out i hi))
  have R3 : Hid (∀ k, r3.foot k → w.heap.size ≤ k) := by
    intro k hk
    by_cases h : k < w2.heap.size
    · exact R2.out k (k3.sub k h hk)
    · have := B2.out.size; omega
  have D3 := Lib.hid d3
  have B3 := Lib.hid hb3
  clear d3 k3 hb3 R2 D2 B2
  go_wp2_with fail
  rw [← hrb]
  refine (COpen_any r3 D0.format w3 D3.out (by omega)).mono ?_
  rintro e w4 ⟨b4, h4⟩
  rw [HP.out] at h4
  simp only [loadL] at h4
  obtain ⟨cb, jb, mb, k, vr, rfl, hcb, hjb, hmb, hk, hc⟩ := h4
  have C4 : Hid (CIn w4 w.heap.size r3 cb jb mb k vr ⟨⟨D0.format, 0, 0, []⟩, -1, []⟩) := ⟨D3.out.below b4, ⟨hc.c, hc.j.base B3.out.size, hc.m, hc.so, hc.fi⟩⟩
  have B4 := Lib.hid (B3.out.trans (b4.mono B3.out.size))
  have FT : Hid (∀ i, cfoot r3 cb jb mb vr i → w.heap.size ≤ i) := by
    have hs := B3.out.size
    rintro i (hi | rfl | rfl | rfl | hi)
    · exact R3.out i hi
    · omega
    · omega
    · omega
    · have := (own_base' hc.j.hr hi).1; omega
  clear hc b4
  go_wp2_with fail
  go_ret3
  exact ⟨r3, cb, jb, mb, k, vr, by rw [hrb]; rfl, C4.out, hk, B4.out, FT.out⟩
end Go.Proofs.YtjflcpkmoamijaaGreatDoor
namespace Go.Proofs.YtjflcpkmoamijaaGreatDoor
open Go.RowKit
set_option linter.unusedVariables false
theorem toList_inj {s s' : ByteArray} (h : s.toList = s'.toList) : s = s' := by
  rw [Lib.toList_data, Lib.toList_data] at h
  obtain ⟨⟨s⟩⟩ := s
  obtain ⟨⟨s'⟩⟩ := s'
  simp at h
  rw [h]
theorem neq_blob (z x y z' x' y' : Int) (s s' : ByteArray) (w : World) : (binOp .neq 93 (.agg #[.int .i64 z, .int .i64 x, .int .i64 y, .string s]) (.agg #[.int .i64 z', .int .i64 x', .int .i64 y', .string s'])).run Tryz.prog w = .ok (.bool (!decide (z = z' ∧ x = x' ∧ y = y' ∧ s = s'))) w := by
  by_cases h1 : z = z'
  · subst h1
    by_cases h2 : x = x'
    · subst h2
      by_cases h3 : y = y'
      · subst h3
        by_cases h4 : s = s'
        · subst h4
          go_simp
        · have h5 : ¬ s.toList = s'.toList := fun e => h4 (toList_inj e)
          go_simp
      · go_simp
    · go_simp
  · go_simp
end Go.Proofs.YtjflcpkmoamijaaGreatDoor
namespace Go.Proofs.YtjflcpkmoamijaaGreatDoor
open Go.RowKit
set_option linter.unusedVariables false
set_option linter.unusedSimpArgs false
set_option linter.unnecessarySimpa false

instance : DecidableEq Bl := fun a b => decidable_of_iff (a.t = b.t ∧ a.s = b.s) (by cases a; cases b; simp)
theorem blob_any (s : ByteArray) (w : World) :
    Calls Tryz.prog 34 #[.string s] w fun e w' => ∃ v, e = .returned v ∧ w'.ownsRow w.heap.size 93 4 v 1 ([(⟨⟨0, 0, 0⟩, s⟩ : Bl)].flatMap Bl.cells) ∧ Below w.heap.size w w' := by
  go_enter Tryz.func34, Tryz.ntmps34
  go_wp2_with fail
  go_ret
  refine ⟨_, rfl, ⟨by simp [Bl.cells], .inr ⟨w.heap.size, 1, _, rfl, Nat.le_refl _, heap_alloc_new w _, by omega, by unfold maxLen; omega, rfl, by simp [Bl.cells]⟩⟩, (Below.refl _ _).alloc (Nat.le_refl _) _⟩
set_option maxHeartbeats 1000000 in
set_option maxRecDepth 100000 in
theorem Same_any (va vb : Value) (a b : List Bl) (w : World) (ha : BlobsAt w va a) (hb : BlobsAt w vb b) (hl : a.length ≤ 1000000000) (hl2 : b.length ≤ 1000000000) :
    Calls Tryz.prog 35 #[va, vb] w fun e w' => e = .returned (.bool (decide (a = b))) ∧ Below w.heap.size w w' := by
  obtain ⟨ao, ca, rfl, hna⟩ := ha.sl
  obtain ⟨bo, cb, rfl, hnb⟩ := hb.sl
  have HA := Lib.hid ha
  have HB := Lib.hid hb
  have HNA := Lib.hid hna
  have HNB := Lib.hid hnb
  clear ha hb hna hnb
  by_cases hlen : a.length = b.length
  · have hlen' : ((a.length : Int) != (b.length : Int)) = false := by simp [hlen]
    have HLEN := Lib.hid hlen
    go_enter Tryz.func35, Tryz.ntmps35
    go_wp2_with fail
    go_loopw [5] (fun v wr => ∃ i : Nat, v = .int .i64 i ∧ i ≤ a.length ∧ Hid (a.take i = b.take i) ∧ Hid (Below w.heap.size w wr)) (fun v _ => a.length - (intOf v).toNat)
    case atStart => exact ⟨0, rfl, by omega, rfl, Below.refl _ _⟩
    case round =>
      obtain ⟨i, rfl, hi, ht, hB⟩ := hrel
      by_cases hic : i < a.length
      · have hic' : (i : Int) < (a.length : Int) := by omega
        have hicb : i < b.length := by omega
        have hicb' : (i : Int) < (b.length : Int) := by omega
        obtain ⟨g, o, rfl⟩ := HNA.out (by intro h; subst h; simp at hic)
        obtain ⟨g', o', rfl⟩ := HNB.out (by intro h; subst h; simp at hicb)
        have xa := range4 ((HA.out.fr (Fr.of_below hB.out Nowhere) (fun _ _ h => h)).nth i hic)
        have xb := range4 ((HB.out.fr (Fr.of_below hB.out Nowhere) (fun _ _ h => h)).nth i hicb)
        have hia : a.take (i + 1) = a.take i ++ [a[i]] := List.take_succ_eq_append_getElem hic
        have hib : b.take (i + 1) = b.take i ++ [b[i]] := List.take_succ_eq_append_getElem hicb
        have hcon : a[i] ≠ b[i] → a ≠ b := fun h e => h (by subst e; rfl)
        have HIA := Lib.hid hia
        have HIB := Lib.hid hib
        have HCON := Lib.hid hcon
        clear hia hib hcon
        generalize a[i] = x at *
        generalize b[i] = y at *
        obtain ⟨⟨z, xx, yy⟩, s⟩ := x
        obtain ⟨⟨z', xx', yy'⟩, s'⟩ := y
        obtain ⟨k0, k1, k2, k3⟩ := xa
        obtain ⟨j0, j1, j2, j3⟩ := xb
        simp only at k0 k1 k2 k3 j0 j1 j2 j3
        have hnq := neq_blob z xx yy z' xx' yy' s s'
        by_cases heq : z = z' ∧ xx = xx' ∧ yy = yy' ∧ s = s'
        · have hb0 : (!decide (z = z' ∧ xx = xx' ∧ yy = yy' ∧ s = s')) = false := by simp [heq]
          have ht2 : Hid (a.take (i + 1) = b.take (i + 1)) := by
            show _ = _
            rw [HIA.out, HIB.out, ht.out]
            obtain ⟨rfl, rfl, rfl, rfl⟩ := heq
            rfl
          rw [hb0] at hnq
          clear heq hb0
          go_wp2_with fail
          go_quiet (fail)
          go_wp2_with fail
          go_roundw
          case rel => exact ⟨i + 1, by go_num, by omega, ht2.out, below_drewN hB.out _⟩
          case measure => simp [intOf]; omega
        · have hb0 : (!decide (z = z' ∧ xx = xx' ∧ yy = yy' ∧ s = s')) = true := by simp only [heq, decide_false, Bool.not_false]
          have hne : Hid (decide (a = b) = false) := by
            show _ = _
            refine decide_eq_false (HCON.out (fun e => heq ?_))
            simp only [Bl.mk.injEq, Tl.mk.injEq] at e
            exact ⟨e.1.1, e.1.2.1, e.1.2.2, e.2⟩
          rw [hb0] at hnq
          clear heq hb0
          go_wp2_with fail
          go_quiet (fail)
          go_wp2_with fail
          go_ret
          exact ⟨by rw [hne.out]; rfl, below_drewN hB.out _⟩
      · have hic' : ¬ (i : Int) < (a.length : Int) := by omega
        have hfin : Hid (a = b) := by
          have := ht.out
          rw [List.take_of_length_le (by omega), List.take_of_length_le (by omega)] at this
          exact this
        go_wp2_with fail
        go_ret
        exact ⟨by rw [decide_eq_true hfin.out]; rfl, hB.out⟩
  · have hlen' : ((a.length : Int) != (b.length : Int)) = true := by simp; omega
    have hne : Hid (decide (a = b) = false) := by
      show _ = _
      exact decide_eq_false (fun e => hlen (by rw [e]))
    go_enter Tryz.func35, Tryz.ntmps35
    go_wp2_with fail
    go_ret
    exact ⟨by rw [hne.out]; rfl, Below.refl _ _⟩
end Go.Proofs.YtjflcpkmoamijaaGreatDoor
namespace Go.Proofs.YtjflcpkmoamijaaGreatDoor
open Go.RowKit
set_option linter.unusedVariables false
set_option linter.unusedSimpArgs false
set_option linter.unnecessarySimpa false

theorem CIn.below {w w' : World} {B : Nat} {r : DRef} {cb jb mb n : Nat} {vr : Value} {C : Cn} (h : CIn w B r cb jb mb n vr C) (k : Below w.heap.size w w') : CIn w' B r cb jb mb n vr C := ⟨h.1.below k, h.2.below k⟩
theorem CIn.lt {w : World} {B : Nat} {r : DRef} {cb jb mb n : Nat} {vr : Value} {C : Cn} (h : CIn w B r cb jb mb n vr C) {k : Nat} (hk : cfoot r cb jb mb vr k) : k < w.heap.size := by
  rcases hk with hk | rfl | rfl | rfl | hk
  · exact h.1.lt hk
  · exact lt_of_heap h.2.c
  · exact h.2.m.lt
  · exact h.2.j.lt
  · exact (own_base' h.2.j.hr hk).2
theorem own_slice {w : World} {B : Nat} {e : TypeId} {size n : Nat} {v : Value} {xs : List Value} (h : w.ownsRow B e size v n xs) : ∃ ao c, v = .slice ao n c := by
  rcases h.2 with ⟨hv, h0⟩ | ⟨g, cap, cur, hv, _⟩
  · exact ⟨none, 0, by rw [hv, h0]⟩
  · exact ⟨_, _, hv⟩
set_option maxHeartbeats 2000000 in
set_option maxRecDepth 100000 in
theorem lives_any (w : World) : Calls Tryz.prog 9 #[] w fun e w' => e = .returned (.bool true) ∧ Below w.heap.size w w' := by
  have hst := Lib.hid (start_any 9 w (by omega) (by omega) lv0')
  go_enter Tryz.func9, Tryz.ntmps9
  go_wp2_with fail
  refine hst.out.mono ?_
  rintro e w1 ⟨r, cb, jb, mb, n, vr, rfl, c1, hn, b1, f1⟩
  have C1 : Hid (CIn w1 w.heap.size r cb jb mb n vr cn0) := c1
  have B1 := Lib.hid b1
  have F1 := Lib.hid f1
  clear c1 b1 f1 hst
  go_wp2_with (go_at_call 27; refine (Version_any cb jb mb (-1) w1 C1.out.2.c).mono ?_; rintro e w2 ⟨rfl, rfl⟩)
  refine (Tiles_any cb jb mb n (-1) [] _ C1.out.2.c C1.out.2.m C1.out.2.so C1.out.2.fi (by omega)).mono ?_
  rintro e w3 ⟨v3, rfl, o3, b3⟩
  obtain ⟨ao, cp, rfl⟩ := own_slice o3
  have C3 := Lib.hid (C1.out.below b3)
  have B3 := Lib.hid (B1.out.trans (b3.mono B1.out.size))
  clear o3 b3 C1 B1
  go_wp2_with fail
  refine (blob_any ⟨#[120]⟩ w3).mono ?_
  rintro e w4 ⟨v4, rfl, o4, b4⟩
  have C4 := Lib.hid (C3.out.below b4)
  have B4 := Lib.hid (B3.out.trans (b4.mono B3.out.size))
  have N4 : Hid (∀ k, v4.ownBlock = some k → ¬ cfoot r cb jb mb vr k) := by
    intro k hk hc
    have h1 := (own_base' o4 hk).1
    have h2 := C3.out.lt hc
    omega
  have V4 : Hid (BlobsAt w4 v4 bx) := own_blobs (l := bx) o4
  clear o4 b4 C3 B3
  go_wp2_with fail
  refine (Put_any r cb jb mb w.heap.size n vr cn0 0 v4 bx w4 C4.out B4.out.size V4.out (fun _ => N4.out) ⟨by decide, by decide⟩ (by decide) (by decide) (by omega) (by decide) (by decide) (by decide)).mono ?_
  rintro e w5 ⟨rfl, r5, vr5, n5, hn5, c5, e5, f5, s5⟩
  rw [lv1]
  have C5 : Hid (CIn w5 w.heap.size r5 cb jb mb n5 vr5 cn1) := c5
  have B5 := Lib.hid (B4.out.trans (f5.below B4.out.size F1.out))
  have F5 : Hid (∀ k, cfoot r5 cb jb mb vr5 k → w.heap.size ≤ k) := by
    intro k hk
    by_cases h : k < w4.heap.size
    · exact F1.out k (s5 k h hk)
    · have := B4.out.size; omega
  clear c5 f5 s5 C4 B4 N4 V4 F1
  have hT5 : CIn w5 w.heap.size r5 cb jb mb n5 vr5 cn1 := C5.out
  go_wp2_with fail
  refine (Tiles_any cb jb mb n5 cn1.ver cn1.T w5 C5.out.2.c C5.out.2.m C5.out.2.so C5.out.2.fi (by omega)).mono ?_
  rintro e w6 ⟨v6, rfl, o6, b6⟩
  have C6 := Lib.hid (C5.out.below b6)
  have B6 := Lib.hid (B5.out.trans (b6.mono B5.out.size))
  have N6 : Hid (∀ k, v6.ownBlock = some k → ¬ cfoot r5 cb jb mb vr5 k) := by
    intro k hk hc
    have h1 := (own_base' o6 hk).1
    have h2 := C5.out.lt hc
    omega
  have V6 : Hid (BlobsAt w6 v6 bx) := by
    have := own_blobs o6
    rw [lv1T] at this
    exact this
  clear o6 b6 C5 B5 hT5
  go_wp2_with fail
  refine (blob_any ⟨#[]⟩ w6).mono ?_
  rintro e w7 ⟨v7, rfl, o7, b7⟩
  have C7 := Lib.hid (C6.out.below b7)
  have B7 := Lib.hid (B6.out.trans (b7.mono B6.out.size))
  have N7 : Hid (∀ k, v7.ownBlock = some k → ¬ cfoot r5 cb jb mb vr5 k) := by
    intro k hk hc
    have h1 := (own_base' o7 hk).1
    have h2 := C6.out.lt hc
    omega
  have V7 : Hid (BlobsAt w7 v7 be) := own_blobs (l := be) o7
  have V67 := Lib.hid (V6.out.fr (Fr.of_below b7 Nowhere) (fun _ _ h => h))
  clear o7 b7 C6 B6 V6
  go_wp2_with fail
  refine (Put_any r5 cb jb mb w.heap.size n5 vr5 cn1 1 v7 be w7 C7.out B7.out.size V7.out (fun _ => N7.out) ⟨by decide, by decide⟩ (by decide) (by decide) (by omega) lvn.1 lvn.2.1 lvn.2.2.1).mono ?_
  rintro e w8 ⟨rfl, r8, vr8, n8, hn8, c8, e8, f8, s8⟩
  rw [lv2]
  have C8 : Hid (CIn w8 w.heap.size r8 cb jb mb n8 vr8 cn2) := c8
  have B8 := Lib.hid (B7.out.trans (f8.below B7.out.size F5.out))
  have V8 := Lib.hid (V67.out.fr f8 N6.out)
  clear c8 f8 s8 C7 B7 N7 V7 V67 N6 F5
  have hrb : r8.b = r.b := e8.trans e5
  go_wp2_with fail
  rw [← hrb]
  refine (COpen_any r8 cn2.J.D w8 C8.out.1 (by rw [lvn.2.2.2]; omega)).mono ?_
  rintro e w9 ⟨b9, h9⟩
  obtain ⟨q, hq1, hq2⟩ := Option.bind_eq_some_iff.1 lv3
  obtain ⟨ep, u, l⟩ := q
  simp only at hq2
  rw [hq1] at h9
  simp only at h9
  rw [hq2] at h9
  obtain ⟨cb9, jb9, mb9, n9, vr9, rfl, _, _, _, hn9, c9⟩ := h9
  have C9 := Lib.hid (C8.out.below b9)
  have O9 := Lib.hid c9.c
  have B9 := Lib.hid (B8.out.trans (b9.mono B8.out.size))
  have V9 := Lib.hid (V8.out.fr (Fr.of_below b9 Nowhere) (fun _ _ h => h))
  clear b9 c9 C8 B8 V8 hq1 hq2
  go_wp2_with fail
  refine (blob_any ⟨#[120]⟩ w9).mono ?_
  rintro e w10 ⟨v10, rfl, o10, b10⟩
  have C10 := Lib.hid (C9.out.below b10)
  have B10 := Lib.hid (B9.out.trans (b10.mono B9.out.size))
  have O10 : Hid (CCell w10 cb9 jb9 mb9 1) := O9.out.fr (Fr.of_below b10 Nowhere) (fun h => h)
  have V10 : Hid (BlobsAt w10 v10 bx) := own_blobs (l := bx) o10
  have V6b := Lib.hid (V9.out.fr (Fr.of_below b10 Nowhere) (fun _ _ h => h))
  clear o10 b10 C9 B9 V9 O9
  go_wp2_with fail
  refine (Same_any v6 v10 bx bx w10 V6b.out V10.out (by decide) (by decide)).mono ?_
  rintro e w11 ⟨rfl, b11⟩
  have hdec : decide (bx = bx) = true := decide_eq_true rfl
  rw [hdec]
  have C11 := Lib.hid (C10.out.below b11)
  have B11 := Lib.hid (B10.out.trans (b11.mono B10.out.size))
  have O11 : Hid (CCell w11 cb9 jb9 mb9 1) := O10.out.fr (Fr.of_below b11 Nowhere) (fun h => h)
  clear b11 C10 B10 V10 O10 V6b hdec
  go_wp2_with fail
  refine (Tiles_any cb jb mb n8 cn2.ver cn2.T w11 C11.out.2.c C11.out.2.m C11.out.2.so C11.out.2.fi (by omega)).mono ?_
  rintro e w12 ⟨v12, rfl, o12, b12⟩
  rw [lv2T] at o12
  obtain ⟨ao12, cp12, rfl⟩ := own_slice o12
  have C12 := Lib.hid (C11.out.below b12)
  have B12 := Lib.hid (B11.out.trans (b12.mono B11.out.size))
  have O12 : Hid (CCell w12 cb9 jb9 mb9 1) := O11.out.fr (Fr.of_below b12 Nowhere) (fun h => h)
  clear o12 b12 C11 B11 O11
  have hv := Lib.hid (Version_any cb jb mb cn2.ver w12 C12.out.2.c)
  rw [lv2v] at hv
  have hv9 := Lib.hid (Version_any cb9 jb9 mb9 1 w12 O12.out)
  go_wp2_with (first
    | (go_at_call_of 27 cb; refine hv.out.mono ?_; rintro e w13 ⟨rfl, rfl⟩)
    | (go_at_call_of 27 cb9; refine hv9.out.mono ?_; rintro e w13 ⟨rfl, rfl⟩)
    | (go_at_call 20; refine (CFormat_nil _).mono ?_; rintro e w13 ⟨rfl, rfl⟩))
  go_ret
  exact ⟨rfl, B12.out⟩
end Go.Proofs.YtjflcpkmoamijaaGreatDoor
