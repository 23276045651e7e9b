import Derived.Test.YtjflcpkmoamijaaGreatDoorGf
import Derived.Test.YtjflcpkmoamijaaGreatDoorGe
import Derived.Deep.Slices
import Derived.Deep.Strs
import Derived.Lib.SmallJoins
namespace Go.Proofs.YtjflcpkmoamijaaGreatDoor
open Go.RowKit Go.ChangeShapes Go.WideShapes
set_option linter.unusedVariables false
set_option linter.unusedSimpArgs false
set_option linter.unnecessarySimpa false

/-! ### The laws' arguments: slices of tiles, operations -/
theorem int_wf {k : Int} (h : (Lit.int .i64 k).wf = true) : InInt k := by
  have h1 : IntKind.i64.min = -9223372036854775808 := by decide
  have h2 : IntKind.i64.max = 9223372036854775807 := by decide
  simp [Lit.wf, h1, h2] at h
  unfold InInt
  omega
theorem list3 {α : Type} {l : List α} (h : l.length = 3) : ∃ a b c, l = [a, b, c] := by
  match l, h with
  | [a, b, c], _ => exact ⟨a, b, c, rfl⟩
theorem list4 {α : Type} {l : List α} (h : l.length = 4) : ∃ a b c d, l = [a, b, c, d] := by
  match l, h with
  | [a, b, c, d], _ => exact ⟨a, b, c, d, rfl⟩
section
variable {H : Type} {enc : TypeId × Value → H} {W : World} {base : Nat} {sp : Nat → Bool} {hd : Bool}
theorem cells_int : Tryz.prog.cellsOf 3 = 1 := by kernel_rfl
theorem cells_str : Tryz.prog.cellsOf 9 = 1 := by kernel_rfl
theorem cells_tile : Tryz.prog.cellsOf 91 = 3 := by kernel_rfl
theorem cells_blob : Tryz.prog.cellsOf 93 = 4 := by kernel_rfl
set_option maxRecDepth 100000 in
theorem trod_tile {fuel : Nat} {cs : List Value} {x : DataW H × List MemPlace} (h : DataW.trod enc Tryz.prog W base sp hd fuel 91 cs = some x) : ∃ z xx y : Int, cs = [.int .i64 z, .int .i64 xx, .int .i64 y] ∧ InInt z ∧ InInt xx ∧ InInt y := by
  obtain ⟨y0, y1, y2, n, _, hl, g0, g1, g2⟩ := Go.Deep.trod_struct3 Tryz.underlying91 h
  rw [cells_tile] at hl
  obtain ⟨c0, c1, c2, rfl⟩ := list3 hl
  · clear hl h
    simp [cells_int] at g0 g1 g2
    obtain ⟨z, e0, _, w0⟩ := DataW.trod_int Tryz.underlying3 g0
    obtain ⟨xx, e1, _, w1⟩ := DataW.trod_int Tryz.underlying3 g1
    obtain ⟨y, e2, _, w2⟩ := DataW.trod_int Tryz.underlying3 g2
    simp at e0 e1 e2
    subst e0; subst e1; subst e2
    exact ⟨z, xx, y, rfl, int_wf w0, int_wf w1, int_wf w2⟩
set_option maxRecDepth 100000 in
theorem trod_blob {fuel : Nat} {cs : List Value} {x : DataW H × List MemPlace} (h : DataW.trod enc Tryz.prog W base sp hd fuel 93 cs = some x) : ∃ b : Bl, cs = b.cells := by
  obtain ⟨y0, y1, n, _, hl, g0, g1⟩ := trod_struct2 Tryz.underlying93 h
  rw [cells_blob] at hl
  obtain ⟨c0, c1, c2, c3, rfl⟩ := list4 hl
  · clear hl h
    simp [cells_tile, cells_str] at g0 g1
    obtain ⟨z, xx, y, e0, _⟩ := trod_tile g0
    obtain ⟨s, e1, _, _⟩ := DataW.trod_string Tryz.underlying9 g1
    simp at e0 e1
    obtain ⟨rfl, rfl, rfl⟩ := e0
    subst e1
    exact ⟨⟨⟨z, xx, y⟩, s⟩, rfl⟩
instance : Inhabited Bl := ⟨⟨⟨0, 0, 0⟩, ⟨#[]⟩⟩⟩
theorem list_get (n : Nat) {α : Type} (F : Nat → α) (i : Nat) (hi : i < ((List.range n).map F).length) : ((List.range n).map F)[i] = F i := by simp
/-- A slice of tiles among the arguments can be read. -/
theorem blobs_of_trod {fuel : Nat} {v : Value} {x : DataW H × List MemPlace} (h : DataW.trod enc Tryz.prog W base sp hd fuel 35 [v] = some x) : ∃ l : List Bl, BlobsAt W v l ∧ (l ≠ [] → ∀ k, v.ownBlock = some k → k < W.heap.size) := by
  rcases Go.Deep.open_slice Tryz.underlying35 h with ⟨e, _⟩ | ⟨a, len, cap, m, n, D, Pl, e, hb, hl, hm, hmm, _, hx⟩
  · simp at e; subst e
    exact ⟨[], BlobsAt.nil_any (w := W) ⟨none, 0, rfl⟩ W, fun h => absurd rfl h⟩
  · simp at e; subst e
    have hlm : len ≤ m := by rw [hmm]; split <;> omega
    have each : ∀ i, i < len → ∃ b : Bl, ∀ j, j < 4 → W.cell? ((a.add (i * 4)).add j) = b.cells[j]? := by
      intro i hi
      obtain ⟨cs, h1, h2⟩ := hx i (by omega)
      rw [cells_blob] at h1
      obtain ⟨b, rfl⟩ := trod_blob h2
      exact ⟨b, (World.cells?_some h1).2.2⟩
    obtain ⟨F, hF⟩ := Go.Deep.choose_lt each
    by_cases h0 : len = 0
    · subst h0
      exact ⟨[], BlobsAt.nil_any (w := W) ⟨some a, cap, rfl⟩ W, fun h => absurd rfl h⟩
    have hc0 := hF 0 (by omega) 0 (by omega)
    have e0 : (a.add (0 * 4)).add 0 = a := by simp [Addr.add]
    rw [e0] at hc0
    have hsp : a.spot = none := World.cell?_spot hc0
    obtain ⟨b, o, spot⟩ := a
    simp only at hsp
    subst hsp
    refine ⟨(List.range len).map F, ⟨⟨some ⟨b, o, none⟩, cap, by simp, fun _ => ⟨b, o, rfl⟩⟩, ?_⟩, ?_⟩
    · intro b' o' n' c' hv j u hj
      simp only [Value.slice.injEq, Option.some.injEq, Addr.mk.injEq] at hv
      obtain ⟨⟨rfl, rfl, _⟩, _, _⟩ := hv
      have hj4 : j < len * 4 := by
        have := (List.getElem?_eq_some_iff.1 hj).1
        rw [flat_len Bl.cells 4 _ (fun _ _ => rfl)] at this
        simpa using this
      have hi : j / 4 < ((List.range len).map F).length := by simp; omega
      have h2 := flat_get Bl.cells 4 ((List.range len).map F) (j / 4) (j % 4) (fun _ _ => rfl) hi (Nat.mod_lt _ (by omega))
      have ej : j / 4 * 4 + j % 4 = j := by omega
      rw [ej, hj, list_get] at h2
      have h3 := hF (j / 4) (by omega) (j % 4) (Nat.mod_lt _ (by omega))
      rw [← h2] at h3
      rw [← h3, Go.Deep.add_add, ej]
      congr 1
      unfold Addr.add
      split
      · rename_i h0; subst h0; rfl
      · rfl
    · intro _ k hk
      simp [Value.ownBlock] at hk
      subst hk
      exact lt_of_cell' hc0
end
/-- An operation of the laws: its kind, its version, its tiles. -/
structure Opv where
  k : Int
  ver : Int
  v : Value
  l : List Bl
def Opv.cells (x : Opv) : List Value := [.int .u8 x.k, .int .i64 x.ver, x.v]
def Opv.val (x : Opv) : Value := .agg #[.int .u8 x.k, .int .i64 x.ver, x.v]
/-- What an operation among the arguments is. -/
structure OpIn (w : World) (x : Opv) : Prop where
  i : InInt x.ver
  b : BlobsAt w x.v x.l
  lt : x.l ≠ [] → ∀ k, x.v.ownBlock = some k → k < w.heap.size
theorem BlobsAt.keep {w w' : World} {v : Value} {l : List Bl} (h : BlobsAt w v l) (hlt : l ≠ [] → ∀ k, v.ownBlock = some k → k < w.heap.size) (hb : Below w.heap.size w w') : BlobsAt w' v l :=
  h.fr (Fr.of_below hb Nowhere) (fun _ _ h => h)
structure OpsAt (w : World) (v : Value) (L : List Opv) : Prop where
  sl : ∃ ao c, v = .slice ao L.length c ∧ (L ≠ [] → ∃ b o, ao = some ⟨b, o, none⟩ ∧ b < w.heap.size)
  at_ : ∀ b o n c, v = .slice (some ⟨b, o, none⟩) n c → w.rangeAt b o (L.flatMap Opv.cells)
  op : ∀ x ∈ L, OpIn w x
theorem OpIn.fr {w w' : World} {x : Opv} {S : Nat → Prop} (h : OpIn w x) (k : Fr w w' S) (hn : ∀ i, i < w.heap.size → ¬ S i) : OpIn w' x :=
  ⟨h.i, h.b.fr0 k (fun h0 i hi => hn i (h.lt h0 i hi)), fun h0 i hi => Nat.lt_of_lt_of_le (h.lt h0 i hi) k.size⟩
theorem OpsAt.nth {w : World} {L : List Opv} {b o n c : Nat} (h : OpsAt w (.slice (some ⟨b, o, none⟩) n c) L) (i : Nat) (hi : i < L.length) : w.rangeAt b (o + i * 3) (L[i]).cells := by
  intro j u hj
  have h1 := h.at_ b o n c rfl (i * 3 + j) u
  have hj3 : j < 3 := (List.getElem?_eq_some_iff.1 hj).1
  rw [flat_get Opv.cells 3 L i j (fun _ _ => rfl) hi hj3] at h1
  rw [Nat.add_assoc]
  exact h1 hj
theorem range3 {w : World} {b o : Nat} {x : Opv} (h : w.rangeAt b o x.cells) : w.cell? ⟨b, o, none⟩ = some (.int .u8 x.k) ∧ w.cell? ⟨b, o + 1, none⟩ = some (.int .i64 x.ver) ∧ w.cell? ⟨b, o + 2, none⟩ = some x.v :=
  ⟨h 0 _ rfl, h 1 _ rfl, h 2 _ rfl⟩
theorem OpsAt.fr {w w' : World} {v : Value} {L : List Opv} {S : Nat → Prop} (h : OpsAt w v L) (k : Fr w w' S) (hn : ∀ i, i < w.heap.size → ¬ S i) : OpsAt w' v L := by
  refine ⟨?_, ?_, fun x hx => (h.op x hx).fr k hn⟩
  · obtain ⟨ao, c, e, h0⟩ := h.sl
    exact ⟨ao, c, e, fun hL => let ⟨b, o, e1, e2⟩ := h0 hL; ⟨b, o, e1, Nat.lt_of_lt_of_le e2 k.size⟩⟩
  · intro b o n c hv
    by_cases hL : L = []
    · subst hL; intro j u hj; simp at hj
    · obtain ⟨ao, c', e, h0⟩ := h.sl
      obtain ⟨b', o', e1, e2⟩ := h0 hL
      rw [hv] at e
      injection e with e _ _
      rw [e1] at e
      injection e with e
      injection e with e _
      subst e
      exact rangeAt_fr (h.at_ b o n c hv) k (hn b e2)
section
variable {H : Type} {enc : TypeId × Value → H} {W : World} {base : Nat} {sp : Nat → Bool} {hd : Bool}
theorem cells_op : Tryz.prog.cellsOf 50 = 3 := by kernel_rfl
theorem cells_u8 : Tryz.prog.cellsOf 5 = 1 := by kernel_rfl
theorem cells_sb : Tryz.prog.cellsOf 35 = 1 := by kernel_rfl
set_option maxRecDepth 100000 in
theorem trod_op {fuel : Nat} {cs : List Value} {x : DataW H × List MemPlace} (h : DataW.trod enc Tryz.prog W base sp hd fuel 50 cs = some x) : ∃ y : Opv, cs = y.cells ∧ OpIn W y := by
  obtain ⟨y0, y1, y2, n, _, hl, g0, g1, g2⟩ := Go.Deep.trod_struct3 Tryz.underlying50 h
  rw [cells_op] at hl
  obtain ⟨c0, c1, c2, rfl⟩ := list3 hl
  · clear hl h
    simp [cells_int, cells_u8, cells_sb] at g0 g1 g2
    obtain ⟨k, e0, _, w0⟩ := DataW.trod_int Tryz.underlying5 g0
    obtain ⟨ver, e1, _, w1⟩ := DataW.trod_int Tryz.underlying3 g1
    obtain ⟨l, hb, hlt⟩ := blobs_of_trod g2
    simp at e0 e1
    subst e0; subst e1
    exact ⟨⟨k, ver, c2, l⟩, rfl, ⟨int_wf w1, hb, hlt⟩⟩
set_option maxRecDepth 100000 in
theorem open_op {r : Reach} {b0 : Nat} {v : Value} {d : DataW H} {p : List MemPlace} (hv : Value.okWide Tryz.prog W r b0 50 v) (h : DataW.Trod enc Tryz.prog W base sp hd 50 v d p) : ∃ y : Opv, v = y.val ∧ OpIn W y := by
  obtain ⟨cs, rfl, hsz⟩ := okWide_struct Tryz.underlying50 hv
  obtain ⟨fuel, hf⟩ := h
  obtain ⟨y, e, hy⟩ := trod_op hf
  refine ⟨y, ?_, hy⟩
  have : cs.toList = y.cells := e
  unfold Opv.val
  congr 1
  apply Array.toList_inj.1
  exact this
instance : Inhabited Opv := ⟨⟨0, 0, undef, []⟩⟩
theorem ops_of_trod {fuel : Nat} {v : Value} {x : DataW H × List MemPlace} (h : DataW.trod enc Tryz.prog W base sp hd fuel 42 [v] = some x) : ∃ L : List Opv, OpsAt W v L := by
  rcases Go.Deep.open_slice Tryz.underlying42 h with ⟨e, _⟩ | ⟨a, len, cap, m, n, D, Pl, e, hb, hl, hm, hmm, _, hx⟩
  · simp at e; subst e
    exact ⟨[], ⟨none, 0, rfl, fun h => absurd rfl h⟩, (fun b o n c hv j u hj => by simp at hj), (fun x hx => by cases hx)⟩
  · simp at e; subst e
    have hlm : len ≤ m := by rw [hmm]; split <;> omega
    have each : ∀ i, i < len → ∃ b : Opv, (∀ j, j < 3 → W.cell? ((a.add (i * 3)).add j) = b.cells[j]?) ∧ OpIn W b := by
      intro i hi
      obtain ⟨cs, h1, h2⟩ := hx i (by omega)
      rw [cells_op] at h1
      obtain ⟨b, rfl, hb⟩ := trod_op h2
      exact ⟨b, (World.cells?_some h1).2.2, hb⟩
    obtain ⟨F, hF⟩ := Go.Deep.choose_lt each
    by_cases h0 : len = 0
    · subst h0
      exact ⟨[], ⟨some a, cap, rfl, fun h => absurd rfl h⟩, (fun b o n c hv j u hj => by simp at hj), (fun x hx => by cases hx)⟩
    have hc0 := (hF 0 (by omega)).1 0 (by omega)
    have e0 : (a.add (0 * 3)).add 0 = a := by simp [Addr.add]
    rw [e0] at hc0
    have hsp : a.spot = none := World.cell?_spot hc0
    obtain ⟨b, o, spot⟩ := a
    simp only at hsp
    subst hsp
    refine ⟨(List.range len).map F, ⟨some ⟨b, o, none⟩, cap, by simp, fun _ => ⟨b, o, rfl, lt_of_cell' hc0⟩⟩, ?_, ?_⟩
    · intro b' o' n' c' hv j u hj
      simp only [Value.slice.injEq, Option.some.injEq, Addr.mk.injEq] at hv
      obtain ⟨⟨rfl, rfl, _⟩, _, _⟩ := hv
      have hj4 : j < len * 3 := by
        have := (List.getElem?_eq_some_iff.1 hj).1
        rw [flat_len Opv.cells 3 _ (fun _ _ => rfl)] at this
        simpa using this
      have hi : j / 3 < ((List.range len).map F).length := by simp; omega
      have h2 := flat_get Opv.cells 3 ((List.range len).map F) (j / 3) (j % 3) (fun _ _ => rfl) hi (Nat.mod_lt _ (by omega))
      have ej : j / 3 * 3 + j % 3 = j := by omega
      rw [ej, hj, list_get] at h2
      have h3 := (hF (j / 3) (by omega)).1 (j % 3) (Nat.mod_lt _ (by omega))
      rw [← h2] at h3
      rw [← h3, Go.Deep.add_add, ej]
      congr 1
      unfold Addr.add
      split
      · rename_i h0; subst h0; rfl
      · rfl
    · intro x hx
      obtain ⟨i, hi, rfl⟩ := List.mem_map.1 hx
      exact (hF i (List.mem_range.1 hi)).2
end
end Go.Proofs.YtjflcpkmoamijaaGreatDoor
namespace Go.Proofs.YtjflcpkmoamijaaGreatDoor
open Go.RowKit
set_option linter.unusedVariables false
set_option linter.unusedSimpArgs false
set_option linter.unnecessarySimpa false

/-! ### The laws' bound on their arguments -/
structure Few (blocks : Int) (L : List Opv) : Prop where
  b : blocks ≤ 40
  n : L.length ≤ 8
  l : ∀ x ∈ L, x.l.length ≤ 8 ∧ ∀ b ∈ x.l, b.s.size ≤ 200
def FewPost (blocks : Int) (L : List Opv) (w : World) (e : Ending) (w' : World) : Prop := ∃ β, e = .returned (.bool β) ∧ w' = w ∧ (β = true → Few blocks L)
set_option maxHeartbeats 1000000 in
set_option maxRecDepth 100000 in
theorem few_any (blocks : Int) (v : Value) (L : List Opv) (w : World) (h : OpsAt w v L) : Calls Tryz.prog 17 #[.int .i64 blocks, v] w (FewPost blocks L w) := by
  obtain ⟨ao, c, rfl, hne⟩ := h.sl
  have H := Lib.hid h
  have HNE := Lib.hid hne
  clear h hne
  have HF : Hid (FewPost blocks L w (.returned (.bool false)) w) := ⟨false, rfl, rfl, fun h => by cases h⟩
  by_cases hb : 40 < blocks
  · go_enter Tryz.func17, Tryz.ntmps17
    go_wp2_with fail
    go_ret
    exact HF.out
  · have hb' : blocks ≤ 40 := by omega
    by_cases hn : 8 < L.length
    · have hn' : (8 : Int) < (L.length : Int) := by omega
      go_enter Tryz.func17, Tryz.ntmps17
      go_wp2_with fail
      go_ret
      exact HF.out
    · have hn' : (L.length : Int) ≤ 8 := by omega
      have HN : Hid (L.length ≤ 8) := by show _ ≤ _; omega
      have HB : Hid (blocks ≤ 40) := hb'
      go_enter Tryz.func17, Tryz.ntmps17
      go_wp2_with fail
      go_loopw [5] (fun iv wr => ∃ i : Nat, iv = .int .i64 i ∧ i ≤ L.length ∧ wr = w ∧ Hid (∀ x ∈ L.take i, x.l.length ≤ 8 ∧ ∀ b ∈ x.l, b.s.size ≤ 200)) (fun iv _ => L.length - (intOf iv).toNat)
      case atStart => exact ⟨0, rfl, by omega, rfl, fun x hx => by simp at hx⟩
      case round =>
        obtain ⟨i, rfl, hi, hw, hall⟩ := hrel
        subst hw
        by_cases hic : i < L.length
        · have hic' : (i : Int) < (L.length : Int) := by omega
          obtain ⟨b, o, rfl, hbl⟩ := HNE.out (by intro h; subst h; simp at hic)
          have hx := range3 (H.out.nth i hic)
          have hop := H.out.op _ (List.getElem_mem hic)
          have HSU : Hid (L.take (i + 1) = L.take i ++ [L[i]]) := List.take_succ_eq_append_getElem hic
          generalize L[i] = x at *
          obtain ⟨k0, k1, k2⟩ := hx
          obtain ⟨xk, xver, xv, xl⟩ := x
          simp only at k0 k1 k2
          obtain ⟨hoi, hob, hol⟩ := hop
          simp only at hob hol
          obtain ⟨bo, bc, rfl, hbn⟩ := hob.sl
          have HOB := Lib.hid hob
          have HBN := Lib.hid hbn
          clear hob hol hoi hbn
          go_wp2_with fail
          go_loopw [6] (fun kv wk => ∃ k : Nat, kv = .int .i64 k ∧ k ≤ 9 ∧ k ≤ xl.length ∧ wk = wr ∧ Hid (∀ b ∈ xl.take k, b.s.size ≤ 200)) (fun kv _ => 9 - (intOf kv).toNat)
          case atStart => exact ⟨0, rfl, by omega, by omega, rfl, fun x hx => by simp at hx⟩
          case round =>
            obtain ⟨k, rfl, hk9, hkl, hw, hkk⟩ := hrel
            subst hw
            by_cases hkc : k < xl.length
            · have hkc' : (k : Int) < (xl.length : Int) := by omega
              by_cases hk8 : k < 9
              · have hk8' : (k : Int) < 9 := by omega
                obtain ⟨g, p, rfl⟩ := HBN.out (by intro h; subst h; simp at hkc)
                have hy := range4 (HOB.out.nth k hkc)
                have HSK : Hid (xl.take (k + 1) = xl.take k ++ [xl[k]]) := List.take_succ_eq_append_getElem hkc
                generalize xl[k] = y at *
                obtain ⟨⟨z, xx, yy⟩, s⟩ := y
                obtain ⟨j0, j1, j2, j3⟩ := hy
                simp only at j0 j1 j2 j3
                by_cases hs : 200 < s.size
                · have hs' : (200 : Int) < (s.size : Int) := by omega
                  go_wp2_with fail
                  go_ret
                  exact HF.out
                · have hs' : (s.size : Int) ≤ 200 := by omega
                  have HK2 : Hid (∀ b ∈ xl.take (k + 1), b.s.size ≤ 200) := by
                    show ∀ b ∈ _, _
                    rw [HSK.out]
                    intro b hb
                    rcases List.mem_append.1 hb with hb | hb
                    · exact hkk.out b hb
                    · rw [List.mem_singleton.1 hb]; show s.size ≤ 200; omega
                  clear HSK
                  go_wp2_with fail
                  go_roundw
                  case rel => exact ⟨k + 1, by go_num, by omega, by omega, by first | rfl | trivial, HK2.out⟩
                  case measure => simp [intOf]; omega
              · have hk8' : ¬ (k : Int) < 9 := by omega
                have hl8 : (8 : Int) < (xl.length : Int) := by omega
                go_wp2_with fail
                go_ret
                exact HF.out
            · have hkc' : ¬ (k : Int) < (xl.length : Int) := by omega
              obtain rfl : k = xl.length := by omega
              have HK3 : Hid (∀ b ∈ xl, b.s.size ≤ 200) := by
                have := hkk.out
                rw [List.take_length] at this
                exact this
              by_cases hl8 : 8 < xl.length
              · have hl8' : (8 : Int) < (xl.length : Int) := by omega
                go_wp2_with fail
                go_ret
                exact HF.out
              · have hl8' : (xl.length : Int) ≤ 8 := by omega
                have HALL : Hid (∀ x ∈ L.take (i + 1), x.l.length ≤ 8 ∧ ∀ b ∈ x.l, b.s.size ≤ 200) := by
                  show ∀ x ∈ _, _
                  rw [HSU.out]
                  intro x hx
                  rcases List.mem_append.1 hx with hx | hx
                  · exact hall.out x hx
                  · rw [List.mem_singleton.1 hx]; exact ⟨by show xl.length ≤ 8; omega, HK3.out⟩
                clear HSU hkk HK3
                go_wp2_with fail
                go_roundw
                case rel => exact ⟨i + 1, by go_num, by omega, by first | rfl | trivial, HALL.out⟩
                case measure => simp [intOf]; omega
        · have hic' : ¬ (i : Int) < (L.length : Int) := by omega
          obtain rfl : i = L.length := by omega
          have HT : Hid (FewPost blocks L wr (.returned (.bool true)) wr) := by
            refine ⟨true, rfl, rfl, fun _ => ⟨HB.out, HN.out, ?_⟩⟩
            have := hall.out
            rw [List.take_length] at this
            exact this
          go_wp2_with fail
          go_ret
          exact HT.out
end Go.Proofs.YtjflcpkmoamijaaGreatDoor
namespace Go.Proofs.YtjflcpkmoamijaaGreatDoor
open Go.RowKit
set_option linter.unusedVariables false
set_option linter.unusedSimpArgs false
set_option linter.unnecessarySimpa false

set_option maxHeartbeats 1000000 in
set_option maxRecDepth 100000 in
/-- A cache and a reference that hold the same are the same. -/
theorem same_any (cb jb mb n : Nat) (ver : Int) (T : List Bl) (bv tv : Value) (w : World) (hc : CCell w cb jb mb ver) (hm : MapIs w mb n T) (hT : Sorted T) (hF : Fits T) (hn : n ≤ 1000000000) (hl : T.length ≤ 1000000000) (hb : BlobsAt w tv T) :
    Calls Tryz.prog 16 #[.pointer (some ⟨cb, 0, none⟩), .agg #[bv, .int .i64 ver, tv]] w fun e w' => e = .returned (.bool true) ∧ Below w.heap.size w w' := by
  have HC := Lib.hid hc
  have HM := Lib.hid hm
  have HT := Lib.hid hT
  have HF := Lib.hid hF
  have HB := Lib.hid hb
  clear hc hm hT hF hb
  have h1 := heap_alloc_new w (.cells #[bv, .int .i64 ver, tv] 40)
  have k1 : (w.alloc (.cells #[bv, .int .i64 ver, tv] 40)).cell? ⟨w.heap.size, 1, none⟩ = some (.int .i64 ver) := cell_of_row _ _ 1 _ _ _ h1
  have k2 : (w.alloc (.cells #[bv, .int .i64 ver, tv] 40)).cell? ⟨w.heap.size, 2, none⟩ = some tv := cell_of_row _ _ 2 _ _ _ h1
  have B1 := Lib.hid ((Below.refl w.heap.size w).alloc (Nat.le_refl _) (.cells #[bv, .int .i64 ver, tv] 40))
  clear h1
  go_enter Tryz.func16, Tryz.ntmps16
  go_wp2_with fail
  generalize w.alloc (.cells #[bv, .int .i64 ver, tv] 40) = w1 at *
  refine region_seq (fun w' => w'.cell? ⟨w.heap.size, 1, none⟩ = some (.int .i64 ver) ∧ w'.cell? ⟨w.heap.size, 2, none⟩ = some tv) []
    [(.p, 0), (.p, 1), (.p, 2), (.p, 3), (.p, 5), (.q, 6), (.l, 4), (.p, 7), (.p, 8), (.p, 9), (.p, 10), (.p, 12), (.q, 13), (.l, 11), (.l, 14), (.p, 15), (.p, 16)] (by kernel_rfl) (by kernel_rfl) (by kernel_rfl) (by kernel_rfl) (fun d v c a w h => by cases d <;> exact h) ?_
  have hS : w1.drew.cell? ⟨w.heap.size, 1, none⟩ = some (.int .i64 ver) ∧ w1.drew.cell? ⟨w.heap.size, 2, none⟩ = some tv := ⟨k1, k2⟩
  (refine seq_p (N := some 5) rfl rfl (by rfl) ?_ (fun w' => ?_) ?_
   rotate_left
   · go_simp
     with_reducible rfl
   simp only [Act.put, List.setIfInBounds_toArray, List.set_cons_zero, List.set_cons_succ])
  (refine seq_p (N := some 6) rfl rfl (by rfl) ?_ (fun w' => ?_) ?_
   rotate_left
   · go_simp
     with_reducible rfl
   simp only [Act.put, List.setIfInBounds_toArray, List.set_cons_zero, List.set_cons_succ])
  (refine seq_p (N := some 7) rfl rfl (by rfl) ?_ (fun w' => ?_) ?_
   rotate_left
   · go_simp
     with_reducible rfl
   simp only [Act.put, List.setIfInBounds_toArray, List.set_cons_zero, List.set_cons_succ])
  (refine seq_p (N := some 8) rfl rfl (by rfl) ?_ (fun w' => ?_) ?_
   rotate_left
   · go_simp
     with_reducible rfl
   simp only [Act.put, List.setIfInBounds_toArray, List.set_cons_zero, List.set_cons_succ])
  (refine seq_p (N := some 10) rfl rfl (by rfl) ?_ (fun w' => ?_) ?_
   rotate_left
   · go_simp
     with_reducible rfl
   simp only [Act.put, List.setIfInBounds_toArray, List.set_cons_zero, List.set_cons_succ])
  (refine seq_q (N := some 11) rfl rfl (by rfl) ?_ ?_ hS ?_
   rotate_left
   · rintro w' ⟨s1, s2⟩
     go_simp
     with_reducible rfl
   simp only [Act.put, List.setIfInBounds_toArray, List.set_cons_zero, List.set_cons_succ])
  have C1 := Lib.hid (HC.out.fr (Fr.of_below B1.out.drew Nowhere) (fun h => h))
  have M1 := Lib.hid (HM.out.fr (Fr.of_below B1.out.drew Nowhere) (fun h => h))
  refine seq_l rfl (by rfl) (wp_cl (N := some 9) (f := 27) (vs := #[.pointer (some ⟨cb, 0, none⟩)]) rfl rfl (by simp [Act.eval]) (callF Tryz.func27 rfl (by decide) _ _) ?_)
  refine (Version_any cb jb mb ver w1.drew C1.out).mono ?_
  rintro e w2 ⟨rfl, rfl⟩
  refine ⟨_, rfl, ?_⟩
  simp only [Act.put, List.setIfInBounds_toArray, List.set_cons_zero, List.set_cons_succ]
  refine ⟨fun h => h, ?_⟩
  (refine seq_p (N := some 12) rfl rfl (by rfl) ?_ (fun w' => ?_) ?_
   rotate_left
   · go_simp
     with_reducible rfl
   simp only [Act.put, List.setIfInBounds_toArray, List.set_cons_zero, List.set_cons_succ])
  (refine seq_p (N := some 13) rfl rfl (by rfl) ?_ (fun w' => ?_) ?_
   rotate_left
   · go_simp
     with_reducible rfl
   simp only [Act.put, List.setIfInBounds_toArray, List.set_cons_zero, List.set_cons_succ])
  (refine seq_p (N := some 14) rfl rfl (by rfl) ?_ (fun w' => ?_) ?_
   rotate_left
   · go_simp
     with_reducible rfl
   simp only [Act.put, List.setIfInBounds_toArray, List.set_cons_zero, List.set_cons_succ])
  (refine seq_p (N := some 15) rfl rfl (by rfl) ?_ (fun w' => ?_) ?_
   rotate_left
   · go_simp
     with_reducible rfl
   simp only [Act.put, List.setIfInBounds_toArray, List.set_cons_zero, List.set_cons_succ])
  (refine seq_p (N := some 17) rfl rfl (by rfl) ?_ (fun w' => ?_) ?_
   rotate_left
   · go_simp
     with_reducible rfl
   simp only [Act.put, List.setIfInBounds_toArray, List.set_cons_zero, List.set_cons_succ])
  (refine seq_q (N := some 18) rfl rfl (by rfl) ?_ ?_ hS ?_
   rotate_left
   · rintro w' ⟨s1, s2⟩
     go_simp
     with_reducible rfl
   simp only [Act.put, List.setIfInBounds_toArray, List.set_cons_zero, List.set_cons_succ])
  refine seq_l rfl (by rfl) (wp_cl (N := some 16) (f := 28) (vs := #[.pointer (some ⟨cb, 0, none⟩)]) rfl rfl (by simp [Act.eval]) (callF Tryz.func28 rfl (by decide) _ _) ?_)
  refine (Tiles_any cb jb mb n ver T w1.drew C1.out M1.out HT.out HF.out hn).mono ?_
  rintro e w3 ⟨v3, rfl, o3, b3⟩
  have B3 := Lib.hid (B1.out.drew.trans (b3.mono B1.out.drew.size))
  have V3 := Lib.hid (own_blobs o3)
  have V3b := Lib.hid (HB.out.fr (Fr.of_below B3.out Nowhere) (fun _ _ h => h))
  have S3 : w3.cell? ⟨w.heap.size, 1, none⟩ = some (.int .i64 ver) ∧ w3.cell? ⟨w.heap.size, 2, none⟩ = some tv := ⟨(World.cell?_of_block (b3.block _ (lt_of_cell' hS.1))).trans hS.1, (World.cell?_of_block (b3.block _ (lt_of_cell' hS.2))).trans hS.2⟩
  refine ⟨_, rfl, ?_⟩
  simp only [Act.put, List.setIfInBounds_toArray, List.set_cons_zero, List.set_cons_succ]
  refine ⟨fun _ => S3, ?_⟩
  refine seq_l rfl (by rfl) (wp_cl (N := some 19) (f := 35) (vs := #[v3, tv]) rfl rfl (by simp [Act.eval]) (callF Tryz.func35 rfl (by decide) _ _) ?_)
  refine (Same_any v3 tv T T w3 V3.out V3b.out hl hl).mono ?_
  rintro e w4 ⟨rfl, b4⟩
  have hdec : decide (T = T) = true := decide_eq_true rfl
  rw [hdec]
  have B4 := Lib.hid (B3.out.trans (b4.mono B3.out.size))
  have S4 : w4.cell? ⟨w.heap.size, 1, none⟩ = some (.int .i64 ver) ∧ w4.cell? ⟨w.heap.size, 2, none⟩ = some tv := ⟨(World.cell?_of_block (b4.block _ (lt_of_cell' S3.1))).trans S3.1, (World.cell?_of_block (b4.block _ (lt_of_cell' S3.2))).trans S3.2⟩
  refine ⟨_, rfl, ?_⟩
  simp only [Act.put, List.setIfInBounds_toArray, List.set_cons_zero, List.set_cons_succ]
  refine ⟨fun _ => S4, ?_⟩
  (refine seq_p (N := some 20) rfl rfl (by rfl) ?_ (fun w' => ?_) ?_
   rotate_left
   · go_simp
     with_reducible rfl
   simp only [Act.put, List.setIfInBounds_toArray, List.set_cons_zero, List.set_cons_succ])
  (refine seq_p (N := some 4) rfl rfl (by rfl) ?_ (fun w' => ?_) ?_
   rotate_left
   · go_simp
     with_reducible rfl
   simp only [Act.put, List.setIfInBounds_toArray, List.set_cons_zero, List.set_cons_succ])
  refine seq_nil ?_
  go_wp2_with fail
  go_ret
  exact ⟨rfl, B4.out⟩
end Go.Proofs.YtjflcpkmoamijaaGreatDoor
namespace Go.Proofs.YtjflcpkmoamijaaGreatDoor
open Go.RowKit
set_option linter.unusedVariables false
set_option linter.unusedSimpArgs false
set_option linter.unnecessarySimpa false

/-! ### A cache in memory over several operations -/
structure Live (w : World) (B : Nat) (r : DRef) (cb jb mb n : Nat) (vr : Value) (C : Cn) : Prop where
  ci : CIn w B r cb jb mb n vr C
  lo : ∀ k, cfoot r cb jb mb vr k → B ≤ k
  hB : B ≤ w.heap.size
  g : CGood C
structure CMove (cb jb mb : Nat) (w : World) (r : DRef) (vr : Value) (w' : World) (r' : DRef) (vr' : Value) : Prop where
  fr : Fr w w' (cfoot r cb jb mb vr)
  sub : ∀ k, k < w.heap.size → cfoot r' cb jb mb vr' k → cfoot r cb jb mb vr k
def Off (w : World) (cb jb mb : Nat) (r : DRef) (vr : Value) (k : Nat) : Prop := k < w.heap.size ∧ ¬ cfoot r cb jb mb vr k
theorem Off.move {cb jb mb : Nat} {w w' : World} {r r' : DRef} {vr vr' : Value} {k : Nat} (h : Off w cb jb mb r vr k) (m : CMove cb jb mb w r vr w' r' vr') : Off w' cb jb mb r' vr' k :=
  ⟨Nat.lt_of_lt_of_le h.1 m.fr.size, fun hc => h.2 (m.sub k h.1 hc)⟩
theorem CMove.below {cb jb mb : Nat} {w w' : World} {r : DRef} {vr : Value} (h : Below w.heap.size w w') : CMove cb jb mb w r vr w' r vr := ⟨Fr.of_below h _, fun _ _ h => h⟩
theorem CMove.trans {cb jb mb : Nat} {w w1 w2 : World} {r r1 r2 : DRef} {vr vr1 vr2 : Value} (a : CMove cb jb mb w r vr w1 r1 vr1) (b : CMove cb jb mb w1 r1 vr1 w2 r2 vr2) : CMove cb jb mb w r vr w2 r2 vr2 :=
  ⟨a.fr.trans b.fr (fun k hk h => a.sub k hk h), fun k hk h => a.sub k hk (b.sub k (Nat.lt_of_lt_of_le hk a.fr.size) h)⟩
theorem CMove.refl {cb jb mb : Nat} (w : World) (r : DRef) (vr : Value) : CMove cb jb mb w r vr w r vr := ⟨Fr.refl _ _, fun _ _ h => h⟩
/-- Tiles that can be read and that the cache's operations leave alone. -/
structure TAt (w : World) (cb jb mb : Nat) (r : DRef) (vr : Value) (v : Value) (T : List Bl) : Prop where
  b : BlobsAt w v T
  o : T ≠ [] → ∀ k, v.ownBlock = some k → Off w cb jb mb r vr k
theorem TAt.move {cb jb mb : Nat} {w w' : World} {r r' : DRef} {vr vr' : Value} {v : Value} {T : List Bl} (h : TAt w cb jb mb r vr v T) (m : CMove cb jb mb w r vr w' r' vr') : TAt w' cb jb mb r' vr' v T :=
  ⟨h.b.fr0 m.fr (fun h0 k hk => (h.o h0 k hk).2), fun h0 k hk => (h.o h0 k hk).move m⟩
/-- A reference cache in memory. -/
structure RAt (w : World) (cb jb mb : Nat) (r : DRef) (vr : Value) (b : Nat) (bv : Value) (V : Int) (v : Value) (T : List Bl) : Prop where
  h : w.heap[b]? = some (.cells #[bv, .int .i64 V, v] 40 (0, 0))
  o : ¬ cfoot r cb jb mb vr b
  t : TAt w cb jb mb r vr v T
theorem RAt.move {cb jb mb : Nat} {w w' : World} {r r' : DRef} {vr vr' : Value} {b : Nat} {bv : Value} {V : Int} {v : Value} {T : List Bl} (h : RAt w cb jb mb r vr b bv V v T) (m : CMove cb jb mb w r vr w' r' vr') : RAt w' cb jb mb r' vr' b bv V v T :=
  ⟨m.fr.heap h.h h.o, (Off.move ⟨lt_of_heap h.h, h.o⟩ m).2, h.t.move m⟩
theorem RAt.c0 {w : World} {cb jb mb : Nat} {r : DRef} {vr : Value} {b : Nat} {bv : Value} {V : Int} {v : Value} {T : List Bl} (h : RAt w cb jb mb r vr b bv V v T) : w.cell? ⟨b, 0, none⟩ = some bv := cell_of_row w _ 0 _ _ _ h.h
theorem RAt.c1 {w : World} {cb jb mb : Nat} {r : DRef} {vr : Value} {b : Nat} {bv : Value} {V : Int} {v : Value} {T : List Bl} (h : RAt w cb jb mb r vr b bv V v T) : w.cell? ⟨b, 1, none⟩ = some (.int .i64 V) := cell_of_row w _ 1 _ _ _ h.h
theorem RAt.c2 {w : World} {cb jb mb : Nat} {r : DRef} {vr : Value} {b : Nat} {bv : Value} {V : Int} {v : Value} {T : List Bl} (h : RAt w cb jb mb r vr b bv V v T) : w.cell? ⟨b, 2, none⟩ = some v := cell_of_row w _ 2 _ _ _ h.h
theorem RAt.fz {w : World} {cb jb mb : Nat} {r : DRef} {vr : Value} {b : Nat} {bv : Value} {V : Int} {v : Value} {T : List Bl} (h : RAt w cb jb mb r vr b bv V v T) (i : Nat) : w.frozen? ⟨b, i, none⟩ = false := frozen_of_row w _ i _ _ h.h
theorem Live.below {w w' : World} {B : Nat} {r : DRef} {cb jb mb n : Nat} {vr : Value} {C : Cn} (h : Live w B r cb jb mb n vr C) (k : Below w.heap.size w w') : Live w' B r cb jb mb n vr C :=
  ⟨h.ci.below k, h.lo, Nat.le_trans h.hB k.size, h.g⟩
/-- A block that an operation made is off the cache. -/
theorem Live.off {w w' : World} {B : Nat} {r : DRef} {cb jb mb n : Nat} {vr : Value} {C : Cn} (h : Live w B r cb jb mb n vr C) {k : Nat} (h1 : w.heap.size ≤ k) (h2 : k < w'.heap.size) : Off w' cb jb mb r vr k :=
  ⟨h2, fun hc => by have := h.ci.lt hc; omega⟩
theorem Live.old {w : World} {B : Nat} {r : DRef} {cb jb mb n : Nat} {vr : Value} {C : Cn} (h : Live w B r cb jb mb n vr C) {k : Nat} (h1 : k < B) : Off w cb jb mb r vr k :=
  ⟨Nat.lt_of_lt_of_le h1 h.hB, fun hc => by have := h.lo k hc; omega⟩
theorem Live.tiles {w w' : World} {B : Nat} {r : DRef} {cb jb mb n : Nat} {vr : Value} {C : Cn} (h : Live w B r cb jb mb n vr C) {v : Value} {T : List Bl} (o : w'.ownsRow w.heap.size 93 4 v T.length (T.flatMap Bl.cells)) : TAt w' cb jb mb r vr v T :=
  ⟨own_blobs o, fun _ k hk => h.off (own_base' o hk).1 (own_base' o hk).2⟩
theorem CaPost.live {r : DRef} {cb jb mb B n : Nat} {vr : Value} {C : Cn} {x : Cn × Int} {m : Nat} {w : World} {e : Ending} {w' : World} (h : CaPost r cb jb mb B m vr x w e w') (l : Live w B r cb jb mb n vr C) (hg : CGood x.1) :
    e = .returned (.int .i64 x.2) ∧ ∃ r' vr' n', n' ≤ m ∧ Live w' B r' cb jb mb n' vr' x.1 ∧ r'.b = r.b ∧ CMove cb jb mb w r vr w' r' vr' := by
  obtain ⟨he, r', vr', n', hn, c, hb, f, s⟩ := h
  refine ⟨he, r', vr', n', hn, ⟨c, ?_, Nat.le_trans l.hB f.size, hg⟩, hb, ⟨f, s⟩⟩
  intro k hk
  by_cases h : k < w.heap.size
  · exact l.lo k (s k h hk)
  · have := l.hB; omega
theorem CMove.base {cb jb mb : Nat} {w0 w w' : World} {r r' : DRef} {vr vr' : Value} {B n : Nat} {C : Cn} (l : Live w B r cb jb mb n vr C) (m : CMove cb jb mb w r vr w' r' vr') (b : Below w0.heap.size w0 w) (hB : w0.heap.size ≤ B) : Below w0.heap.size w0 w' :=
  b.trans (m.fr.below b.size (fun k hk => Nat.le_trans hB (l.lo k hk)))
/-- An operation of a law on a cache: 0 puts, else (in the law of stops) it compacts. -/
theorem Live.put {w : World} {B : Nat} {r : DRef} {cb jb mb n : Nat} {vr : Value} {C : Cn} (h : Live w B r cb jb mb n vr C) (ver : Int) (v : Value) (l : List Bl) (t : TAt w cb jb mb r vr v l) (hv : InInt ver) (hl : l.length ≤ 1000) (hsz : ∀ b ∈ l, b.s.size ≤ 4294967296) (hn : n ≤ 900000000) (hlog : C.J.D.log.length ≤ 1000000) :
    Calls Tryz.prog 22 #[.pointer (some ⟨cb, 0, none⟩), .int .i64 ver, v] w fun e w' => e = .returned (.int .i64 (putC C ver l).2) ∧ ∃ r' vr' n', n' ≤ n + 1000 ∧ Live w' B r' cb jb mb n' vr' (putC C ver l).1 ∧ r'.b = r.b ∧ CMove cb jb mb w r vr w' r' vr' := by
  have hp := parse_size h.g.jp
  have hh := hlf_half h.g.h5 h.g.ht
  refine (Put_any r cb jb mb B n vr C ver v l w h.ci h.hB t.b (fun h0 k hk => (t.o h0 k hk).2) hv hl hsz hn (by omega) hlog (by omega)).mono ?_
  intro e w' hq
  exact hq.live h (put_step h.g ver l (by omega) hsz).1
theorem Live.compact {w : World} {B : Nat} {r : DRef} {cb jb mb n : Nat} {vr : Value} {C : Cn} (h : Live w B r cb jb mb n vr C) (hT : C.T.length ≤ 1000) (hn : n ≤ 900000000) (hlog : C.J.D.log.length ≤ 900000) :
    Calls Tryz.prog 24 #[.pointer (some ⟨cb, 0, none⟩)] w fun e w' => e = .returned (.int .i64 (compactC C).2) ∧ ∃ r' vr' n', n' ≤ n ∧ Live w' B r' cb jb mb n' vr' (compactC C).1 ∧ r'.b = r.b ∧ CMove cb jb mb w r vr w' r' vr' := by
  have hp := parse_size h.g.jp
  have v0 := h.g.v0
  have v1 := h.g.v1
  refine (Compact_any r cb jb mb B n vr C w h.ci h.hB (by unfold InInt; omega) hT hn hp.2.2.2 hlog).mono ?_
  intro e w' hq
  exact hq.live h (compact_step h.g (by omega)).1
theorem CGood.limit {C : Cn} (h : CGood C) (n : Int) : CGood { C with J := { C.J with D := C.J.D.limit n } } :=
  ⟨parse_now h.jp rfl, h.ld, h.lv, h.h5, h.ht, h.v0, h.v1, h.tg⟩
theorem Live.limit {w : World} {B : Nat} {r : DRef} {cb jb mb n : Nat} {vr : Value} {C : Cn} (h : Live w B r cb jb mb n vr C) (k : Int) (hk : InInt k) :
    Calls Tryz.prog 33 #[.pointer (some ⟨r.b, 0, none⟩), .int .i64 k] w fun e w' => e = .returned (.tuple #[]) ∧ Live w' B r cb jb mb n vr { C with J := { C.J with D := C.J.D.limit k } } ∧ CMove cb jb mb w r vr w' r vr := by
  refine (Limit_any r C.J.D k w h.ci.1 hk.2).mono ?_
  rintro e w' ⟨rfl, d, f⟩
  refine ⟨rfl, ⟨⟨d, h.ci.2.fr f (cc_dev_ne h.ci.1 h.ci.2.c) (map_dev_ne h.ci.1 h.ci.2.m) (fun i hi => jfoot_dev h.ci.2.j h.ci.1 hi)⟩, h.lo, Nat.le_trans h.hB f.size, h.g.limit k⟩, ⟨f.mono (fun _ _ h => .inl h), fun _ _ h => h⟩⟩
/-- A cache opened on what a device holds behind a number of writes. -/
theorem open_shows (r : DRef) (D : Dev) (w : World) (h : DevIs w r D) (h5 : 5 ≤ D.now.length) {v : Int} {T : List Bl} (hs : Shows D.now v T) :
    Calls Tryz.prog 14 #[.pointer (some ⟨r.b, 0, none⟩)] w fun e w' => Below w.heap.size w w' ∧ ∃ cb jb mb n, e = .returned (.tuple #[.pointer (some ⟨cb, 0, none⟩), .int .i64 0]) ∧ n ≤ 100000000 ∧ CCell w' cb jb mb v ∧ MapIs w' mb n T ∧ Sorted T ∧ Fits T := by
  refine (COpen_any r D w h h5).mono ?_
  rintro e w' ⟨b, hq⟩
  obtain ⟨ep, u, l, h1, h2⟩ := hs.at_ (D := D) rfl
  rw [h1] at hq
  simp only [h2] at hq
  obtain ⟨cb, jb, mb, n, vr, rfl, _, _, _, hn, hc⟩ := hq
  exact ⟨b, cb, jb, mb, n, rfl, hn, hc.c, hc.m, hc.so, hc.fi⟩
theorem after_now (D : Dev) (n : Int) : (D.after n).now = redo D.first (D.log.take (D.upto n)) := rfl
theorem putC_same {C : Cn} {ver : Int} {l : List Bl} (h : (putC C ver l).2 ≠ 0) : (putC C ver l).1.ver = C.ver ∧ (putC C ver l).1.T = C.T := by
  unfold putC at h ⊢
  split
  · exact ⟨rfl, rfl⟩
  · split
    · exact ⟨rfl, rfl⟩
    · split
      · rename_i h1 h2 h3
        simp [h1, h2, h3] at h
      · exact ⟨rfl, rfl⟩
theorem compactC_same {C : Cn} : (compactC C).1.ver = C.ver ∧ (compactC C).1.T = C.T := by
  unfold compactC
  split <;> exact ⟨rfl, rfl⟩
theorem putC_T {C : Cn} {ver : Int} {l : List Bl} : (putC C ver l).1.T.length ≤ C.T.length + l.length := by
  unfold putC
  have := apply_len l C.T
  split
  · simp
  · split
    · simp
    · split
      · exact this
      · simp
theorem CStep.log {C C' : Cn} (h : CStep C C') : C'.J.D.log.length ≤ C.J.D.log.length + C.J.D.now.length := by
  obtain ⟨g, e, h1, _⟩ := h.lg
  rw [e, List.length_append]; omega
end Go.Proofs.YtjflcpkmoamijaaGreatDoor
