import Derived.Test.YtjflcpkmoamijaaGreatDoorTi
namespace Go.Proofs.YtjflcpkmoamijaaGreatDoor
open Go.RowKit
open Go.Maps (Keyed)
set_option linter.unusedVariables false
set_option linter.unusedSimpArgs false
set_option linter.unnecessarySimpa false

def TilesPost (T : List Bl) (w : World) (e : Ending) (w' : World) : Prop :=
  ∃ v, e = .returned v ∧ w'.ownsRow w.heap.size 93 4 v T.length (T.flatMap Bl.cells) ∧ Below w.heap.size w w'
/-- What the sort leaves of an owned row of tiles. -/
def SortOk : Prop := ∀ (v : Value) (acc : List Bl) (B : Nat) (w : World), B ≤ w.heap.size → acc.length ≤ 1000000000 → w.ownsRow B 93 4 v acc.length (acc.flatMap Bl.cells) →
  Calls Tryz.prog 59 #[v, .func (.func 60) #[] #[]] w fun e w' => e = .returned (.tuple #[]) ∧ ∃ l : List Bl, l.Perm acc ∧ l.Pairwise (fun a b => b.t.less a.t = false) ∧ w'.ownsRow B 93 4 v acc.length (l.flatMap Bl.cells) ∧ Below B w w'
set_option maxHeartbeats 1000000 in
set_option maxRecDepth 100000 in
theorem Tiles_of (hsort : SortOk) (cb jb mb n : Nat) (ver : Int) (T : List Bl) (w : World) (hc : CCell w cb jb mb ver) (hm : MapIs w mb n T) (hT : Sorted T) (hF : Fits T) (hn : n ≤ 1000000000) :
    Calls Tryz.prog 28 #[.pointer (some ⟨cb, 0, none⟩)] w (TilesPost T w) := by
  have c2 := hc.c2
  obtain ⟨D, hown, hrep⟩ := hm
  have HO := Lib.hid hown
  have HR := Lib.hid hrep
  have HT := Lib.hid hT
  have HF := Lib.hid hF
  have HS := Lib.hid hsort
  clear hc hown hrep hT hF hsort
  go_enter Tryz.func28, Tryz.ntmps28
  go_wp2_with (
    at_range
    refine wpList_range_own _ rfl _ 82 rfl 91 9 klaw Tryz.underlying82 _ mb n D (by rfl) HO.out ?_
    intro w0 hrg0 hg0 hs0
    have HRG := Lib.hid hrg0
    have HG := Lib.hid hg0
    have HS0 := Lib.hid hs0
    clear hrg0 hg0 hs0)
  have HB0 : Hid (Below w.heap.size w w0) := ⟨HG.out.os, HG.out.tape, HG.out.output, HG.out.size, fun k hk => HG.out.block k hk (by simp)⟩
  have hml := HO.out.lt
  go_frame
  go_loopw [3] (fun v wr => ∃ (left : Lit → Bool) (cnt : Nat) (acc : List Bl), Hid (wr.ranges Tryz.prog 91 (plainElem Tryz.prog 9) mb w.heap.size n D left cnt) ∧ acc.length + cnt ≤ 1000000000 ∧
    Hid (wr.ownsRow w.heap.size 93 4 v acc.length (acc.flatMap Bl.cells)) ∧ Hid (Below w.heap.size w wr) ∧ Hid (Coll T left acc)) (fun _ wr => wr.rangeLeft mb w.heap.size)
  case atStart =>
    have hsz : Maps.size D ≤ n := by
      obtain ⟨es, clock, hb, Fi, hsz, rfl⟩ := HO.out
      show List.length _ ≤ n
      rw [length_sorted]; simpa using hsz
    exact ⟨_, _, [], HRG.out, by simp; omega, World.ownsRow_nil _ _ _ _, HB0.out, Coll.start HR.out⟩
  case round =>
    obtain ⟨left, cnt, acc, hrg, hcs, hown, hB, hC⟩ := hrel
    go_wp2_with (first
      | (at_next; refine wpList_next_ranges _ rfl _ rfl 91 klaw (plainElem Tryz.prog 9) Tl.v Value.string (fun key kl h => by obtain ⟨t, ht, _⟩ := key_shape key kl h; exact ⟨t, ht⟩) (fun v y hv => by obtain ⟨c, hc, _⟩ := plainElem_string_inv Tryz.underlying9 hv; exact ⟨c, hc⟩) mb w.heap.size n D left cnt (by rfl) hrg.out ?_ ?_))
    · intro hc0 hl0
      have hmem := hC.out.done hl0 HT.out HF.out
      have hw := Lib.hid (HS.out u3 acc w.heap.size wr hB.out.size (by omega) hown.out)
      have hperm : T.Perm acc := by
        refine (List.perm_ext_iff_of_nodup ?_ ?_).2 (fun b => (hmem b).symm)
        · exact List.Pairwise.of_map (·.t) (fun a b h e => h (by rw [e])) HT.out.nodup
        · exact List.Pairwise.of_map (·.t) (fun a b h e => h (by rw [e])) hC.out.nod
      have HM := Lib.hid hmem
      have HP := Lib.hid hperm
      clear hmem hperm hl0
      go_wp2_with (go_at_call 59; refine hw.out.mono ?_; rintro e w5 ⟨rfl, l, hl1, hl2, hl3, hl4⟩)
      go_ret
      have hlT : l = T := by
        have hnd : (l.map (·.t)).Nodup := ((hl1.trans HP.out.symm).map _).nodup_iff.2 HT.out.nodup
        have hso : Sorted l := by
          have h3 : l.Pairwise (fun a b => a.t ≠ b.t) := by unfold List.Nodup at hnd; rwa [List.pairwise_map] at hnd
          refine (hl2.and h3).imp ?_
          rintro a b ⟨h1, h2⟩
          rcases less_total h2 with h | h
          · exact h
          · rw [h1] at h; cases h
        exact Sorted.uniq hso HT.out (fun b => (hl1.mem_iff).trans (HM.out b))
      subst hlT
      refine ⟨u3, rfl, ?_, hB.out.trans hl4⟩
      rw [← hl1.length_eq] at hl3
      exact hl3
    · intro x c kl y1 y2 w1 cnt1 hkey hlx hR hat hrg1 hlt hg1 hs1 hen
      obtain ⟨hfx, rfl⟩ : x.fits ∧ kl = x.key := by
        obtain ⟨t, ht, hf, hk⟩ := key_shape _ _ hkey
        have : x = t := by cases x; cases t; simp [Tl.v] at ht; simp [ht]
        subst this; exact ⟨hf, hk⟩
      have hy1 : y1 = .lit (.string c.data.toList) := by
        obtain ⟨s, hs, hz, _⟩ := plainElem_string_inv Tryz.underlying9 hR
        injection hs with hs
        subst hs
        exact congrArg Prod.fst hz
      have C1 := Lib.hid (hC.out.step HR.out hfx hlx (fun z => by rw [hat, hy1]))
      have R1 := Lib.hid hrg1
      have hown1 : w1.ownsRow w.heap.size 93 4 u3 acc.length (acc.flatMap Bl.cells) := by
        refine hown.out.kept hg1 ?_
        cases hk : u3.ownBlock with
        | none => exact .inl rfl
        | some k =>
          right
          intro e
          injection e with e
          obtain ⟨cc, hcc⟩ := own_elem hown.out hk
          obtain ⟨es, clock, since, seen, c0, hb, F, hs, hD, hr, rest⟩ := hrg.out
          rw [e, hr] at hcc
          cases hcc
      have hB1 : Below w.heap.size w w1 := hB.out.grown hg1 hB.out.size (fun j hj => by injection hj with hj; omega)
      have O1 := Lib.hid hown1
      have B1 := Lib.hid hB1
      have HRG2 := Lib.hid hrg
      have HLT := Lib.hid hlt
      clear hrg hown hB hC hkey hlx hR hat hrg1 hg1 hs1 hown1 hB1 hy1 hlt
      obtain ⟨z, xx, y⟩ := x
      simp only [Tl.v] at hen ⊢
      have O2 : Hid ((w1.alloc (.cells #[.int .i64 z, .int .i64 xx, .int .i64 y] 91)).ownsRow w.heap.size 93 4 u3 acc.length (acc.flatMap Bl.cells)) := O1.out.alloc _
      have B2 : Hid (Below w.heap.size w (w1.alloc (.cells #[.int .i64 z, .int .i64 xx, .int .i64 y] 91))) := B1.out.alloc B1.out.size _
      have R2 : Hid ((w1.alloc (.cells #[.int .i64 z, .int .i64 xx, .int .i64 y] 91)).ranges Tryz.prog 91 (plainElem Tryz.prog 9) mb w.heap.size n D (fun q => left q && !q.sameKey (Tl.mk z xx y).key) cnt1) := R1.out.alloc _
      have hsz1 : (w1.alloc (.cells #[.int .i64 z, .int .i64 xx, .int .i64 y] 91)).heap.size = w1.heap.size + 1 := by simp
      have HSZ := Lib.hid hsz1
      clear hsz1
      have hlim : acc.length + 1 ≤ 1000000000 := by have := HLT.out; omega
      go_wp2_with (
        at_builtin
        refine app1 rfl _ _ 35 93 (.agg #[.int .i64 0, .int .i64 0, .int .i64 0, .string ⟨#[]⟩]) 4 40 w.heap.size [.int .i64 z, .int .i64 xx, .int .i64 y, .string c] rfl Tryz.underlying35 info_blob rfl (by omega) (by omega) u3 acc.length (acc.flatMap Bl.cells) (by rfl) (by simp [Act.eval]) rfl (by intro u hu; simp at hu; rcases hu with rfl | rfl | rfl | rfl <;> rfl) O2.out B2.out.size (by omega) ?_
        intro v5 w5 hown5 hg5 hat5
        have HO5 := Lib.hid hown5
        have HG5 := Lib.hid hg5
        clear hown5 hg5 hat5)
      have own5 : Hid (w5.ownsRow w.heap.size 93 4 v5 (acc ++ [(⟨⟨z, xx, y⟩, c⟩ : Bl)]).length ((acc ++ [(⟨⟨z, xx, y⟩, c⟩ : Bl)]).flatMap Bl.cells)) := by
        have e1 : (acc ++ [(⟨⟨z, xx, y⟩, c⟩ : Bl)]).flatMap Bl.cells = acc.flatMap Bl.cells ++ [.int .i64 z, .int .i64 xx, .int .i64 y, .string c] := by simp [Bl.cells]
        show w5.ownsRow _ _ _ _ _ _
        rw [e1, List.length_append]; exact HO5.out
      have hnm : ∀ k, u3.ownBlock = some k → k ≠ mb ∧ k ≠ w.heap.size := by
        intro k hk
        obtain ⟨cc, hcc⟩ := own_elem O2.out hk
        obtain ⟨es, clock, since, seen, c0, hb, F, hs, hD, hr, rest⟩ := R2.out
        exact ⟨fun e => (by rw [e, hb] at hcc; cases hcc), fun e => (by rw [e, hr] at hcc; cases hcc)⟩
      have rg5 : Hid (w5.ranges Tryz.prog 91 (plainElem Tryz.prog 9) mb w.heap.size n D (fun q => left q && !q.sameKey (Tl.mk z xx y).key) cnt1) :=
        R2.out.kept HG5.out (fun e => (hnm _ e.symm).1 rfl) (fun e => (hnm _ e.symm).2 rfl)
      have b5 : Hid (Below w.heap.size w w5) := B2.out.grown HG5.out B2.out.size (fun j hj => (own_base' O2.out hj).1)
      have HNL : Hid (acc.length + 1 + cnt1 ≤ 1000000000) := by show _ ≤ _; have := HLT.out; omega
      go_roundw
      case rel => exact ⟨_, cnt1, acc ++ [(⟨⟨z, xx, y⟩, c⟩ : Bl)], rg5.out, by have := HNL.out; simp; omega, own5.out, b5.out, C1.out⟩
      case measure => rw [rg5.out.left_eq, HRG2.out.left_eq]; exact HLT.out
end Go.Proofs.YtjflcpkmoamijaaGreatDoor
