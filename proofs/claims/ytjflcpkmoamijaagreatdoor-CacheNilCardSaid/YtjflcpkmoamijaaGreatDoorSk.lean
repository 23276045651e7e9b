import Derived.Test.YtjflcpkmoamijaaGreatDoorSn
namespace Go.Proofs.YtjflcpkmoamijaaGreatDoor
open Go.RowKit Go.Shelf Go.Sort
set_option linter.unusedVariables false
set_option linter.unusedSimpArgs false
set_option linter.unnecessarySimpa false

theorem flatK_get (l : List Bl) (d : Array Bl) (hd : d.toList = l) (j : Nat) (hj : j < l.length * 4) : (flatK Bl.cells 4 d)[j]! = (l.flatMap Bl.cells)[j]! := by
  subst hd
  rw [get_flatK _ _ _ _ (by simpa using hj)]
  have hj' : j < d.size * 4 := by simpa using hj
  have h1 : j / 4 < d.toList.length := by rw [Array.length_toList]; omega
  have h2 := flat_get Bl.cells 4 d.toList (j / 4) (j % 4) (fun _ _ => rfl) h1 (Nat.mod_lt _ (by omega))
  have e : j / 4 * 4 + j % 4 = j := by omega
  rw [e] at h2
  have h3 : d[j / 4]! = d.toList[j / 4] := by
    rw [getElem!_pos d _ (by omega)]; rfl
  rw [h3, List.getElem!_eq_getElem?_getD, List.getElem!_eq_getElem?_getD, h2]
theorem sort_ok : SortOk := by
  intro v acc B w hB hlen hown
  rcases hown.2 with ⟨rfl, h0⟩ | ⟨g, cap, cur, rfl, hb, hg, hn, hm, hs, ht⟩
  · have : acc = [] := List.eq_nil_of_length_eq_zero h0
    subst this
    refine (sort_none _ w).mono ?_
    rintro e w' ⟨rfl, rfl⟩
    exact ⟨rfl, [], List.Perm.refl _, List.Pairwise.nil, hown, Below.refl _ _⟩
  · have eg : ∀ args w, (callFunc 60 args).run Tryz.prog w = .ok (.enter 60 args) w := callF Tryz.func60 rfl (by decide)
    have hlt := lt_of_heap hg
    have hfl : (acc.flatMap Bl.cells).length = acc.length * 4 := flat_len Bl.cells 4 acc (fun _ _ => rfl)
    have hH : HoldsK Bl.cells 4 w g 0 acc.toArray := by
      intro j hj
      rw [size_flatK] at hj
      have hj' : j < acc.length * 4 := by simpa using hj
      refine ⟨?_, by simp [World.frozen?, hg]⟩
      have h1 := World.ownsRow.cellAt hown j hj'
      rw [Nat.zero_add, h1, flatK_get acc _ (by simp) j hj', List.getElem?_eq_getElem (by omega)]
      rw [List.getElem!_eq_getElem?_getD, List.getElem?_eq_getElem (by omega)]
      rfl
    have hcon := AnyQ.slices_SortFunc Tryz.sortBlob 4 Tryz.isAgg93 Tryz.sizeOf93 Bl.cells (fun _ => rfl) (fun x v hv => by simp [Bl.cells] at hv; rcases hv with rfl | rfl | rfl | rfl <;> rfl) cfB swoB 60 #[] g 0 cap acc.toArray w eg
      (fun _ _ _ _ x y => tiles1 x y _) hH hlt (by simp; omega)
    change Calls Tryz.prog 59 _ _ _ at hcon
    rw [List.size_toArray] at hcon
    refine hcon.mono ?_
    rintro e w' ⟨rfl, d', n, os, hp, hso, rfl⟩
    have hsz : d'.size = acc.length := by have := hp.1; simpa using this
    have hpl : d'.toList.Perm acc := by
      have := hp.2.2
      have e1 : d'.extract 0 acc.length = d' := by rw [← hsz]; simp
      have e2 : acc.toArray.extract 0 acc.length = acc.toArray := by
        have : acc.length = acc.toArray.size := by simp
        rw [this]; simp
      rw [e1, e2] at this
      simpa using this
    refine ⟨rfl, d'.toList, hpl, ?_, ?_, ?_⟩
    · rw [List.pairwise_iff_getElem]
      intro i j hi hj hij
      rw [Array.length_toList] at hi hj
      have := hso i j (Nat.zero_le _) hij (by omega)
      rw [ltB, getElem!_pos d' _ hj, getElem!_pos d' _ hi] at this
      simpa using this
    · have hl2 : d'.toList.length = acc.length := by simpa using hsz
      have hfl2 : (d'.toList.flatMap Bl.cells).length = acc.length * 4 := by rw [flat_len Bl.cells 4 _ (fun _ _ => rfl), hl2]
      refine ⟨hfl2, .inr ⟨g, cap, Sort.putCells id 0 (flatK Bl.cells 4 d') cur, rfl, hb, ?_, hn, hm, by simpa [Sort.putCells] using hs, ?_⟩⟩
      · have : (putRow id (Sort.ahead w n) g 0 (flatK Bl.cells 4 d')).heap[g]? = some (.cells (Sort.putCells id 0 (flatK Bl.cells 4 d') cur) 93 (0, 0)) := by
          simp [putRow, mapBlock, Sort.ahead, Array.getElem?_modify, hg, onCells]
        show ((putRow id (Sort.ahead w n) g 0 (flatK Bl.cells 4 d')).heap ++ os)[g]? = _
        rw [Array.getElem?_append_left (lt_of_heap this)]
        exact this
      · apply List.ext_getElem?
        intro j
        rw [List.getElem?_take, Array.getElem?_toList]
        by_cases hj : j < acc.length * 4
        · have hjc : j < cur.size := by rw [hs]; omega
          rw [if_pos hj]
          simp only [Sort.putCells, Array.getElem?_mapIdx, Array.getElem?_eq_getElem hjc, Option.map_some]
          rw [if_pos (by rw [size_flatK, hsz]; omega), Nat.sub_zero, flatK_get d'.toList d' rfl j (by rw [hl2]; exact hj), List.getElem!_eq_getElem?_getD, List.getElem?_eq_getElem (by omega)]
          rfl
        · rw [if_neg hj, List.getElem?_eq_none (by omega)]
    · refine ⟨rfl, rfl, rfl, ?_, ?_⟩
      · show w.heap.size ≤ ((putRow id (Sort.ahead w n) g 0 (flatK Bl.cells 4 d')).heap ++ os).size
        simp [putRow, mapBlock, Sort.ahead]
      · intro k hk
        have hk2 : k < (putRow id (Sort.ahead w n) g 0 (flatK Bl.cells 4 d')).heap.size := by simp [putRow, mapBlock, Sort.ahead]; omega
        show ((putRow id (Sort.ahead w n) g 0 (flatK Bl.cells 4 d')).heap ++ os)[k]? = _
        rw [Array.getElem?_append_left hk2]
        simp [putRow, mapBlock, Sort.ahead, Array.getElem?_modify, show g ≠ k by omega]
theorem Tiles_any (cb jb mb n : Nat) (ver : Int) (T : List Bl) (w : World) (hc : CCell w cb jb mb ver) (hm : MapIs w mb n T) (hT : Sorted T) (hF : Fits T) (hn : n ≤ 1000000000) :
    Calls Tryz.prog 28 #[.pointer (some ⟨cb, 0, none⟩)] w (TilesPost T w) := Tiles_of sort_ok cb jb mb n ver T w hc hm hT hF hn
end Go.Proofs.YtjflcpkmoamijaaGreatDoor
