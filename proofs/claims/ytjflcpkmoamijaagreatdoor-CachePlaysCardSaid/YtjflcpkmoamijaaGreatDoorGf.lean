import Derived.Test.YtjflcpkmoamijaaGreatDoorGc
import Derived.Test.YtjflcpkmoamijaaGreatDoorGa
import Derived.Test.YtjflcpkmoamijaaGreatDoorGe
namespace Go.Proofs.YtjflcpkmoamijaaGreatDoor
open Go.RowKit
set_option linter.unusedVariables false
set_option linter.unusedSimpArgs false
set_option linter.unnecessarySimpa false

/-! ### The journal's Reset -/
def sumC (l : List ByteArray) : Nat := (l.map (fun s => 1 + cnt s.size)).sum
def resW (a : Nat) : List ByteArray → List (Nat × ByteArray)
  | [] => []
  | s :: r => bodyW a s ++ ([(a, headS s.size)] ++ resW (a + (1 + cnt s.size)) r)
def nextE (ep : Nat) : Nat := if 2147483647 < ep + 1 then 0 else ep + 1
def resetW (D : Dev) (ep : Nat) (l : List ByteArray) : List (Nat × ByteArray) :=
  resW (fst0 D (nextE ep)) l ++ ((if sumC l < hlf D then [(fst0 D (nextE ep) + sumC l, (⟨#[]⟩ : ByteArray))] else []) ++ [(0, rootS (nextE ep))])
def resetP (J : Jn) (l : List ByteArray) : Jn × Bool :=
  if hlf J.D < sumC l then (J, false) else
  if (wrs J.D (resetW J.D J.ep l)).2 then (⟨(wrs J.D (resetW J.D J.ep l)).1, nextE J.ep, sumC l, l⟩, true)
  else ({ J with D := (wrs J.D (resetW J.D J.ep l)).1 }, false)
theorem sumC_app (l : List ByteArray) (s : ByteArray) : sumC (l ++ [s]) = sumC l + (1 + cnt s.size) := by simp [sumC]
theorem sumC_take_succ (l : List ByteArray) (i : Nat) (h : i < l.length) : sumC (l.take (i + 1)) = sumC (l.take i) + (1 + cnt (l[i]).size) := by
  rw [List.take_succ_eq_append_getElem h, sumC_app]
theorem sumC_take_le : ∀ (l : List ByteArray) (i : Nat), sumC (l.take i) ≤ sumC l
  | [], i => by simp
  | s :: r, 0 => by simp [sumC]
  | s :: r, i + 1 => by
    have := sumC_take_le r i
    simp [sumC] at *; omega
theorem resW_app : ∀ (a : Nat) (l : List ByteArray) (s : ByteArray), resW a (l ++ [s]) = resW a l ++ (bodyW (a + sumC l) s ++ [(a + sumC l, headS s.size)])
  | a, [], s => by simp [resW, sumC]
  | a, x :: r, s => by
    have := resW_app (a + (1 + cnt x.size)) r s
    have e : a + (1 + cnt x.size) + sumC r = a + sumC (x :: r) := by simp [sumC]; omega
    rw [e] at this
    simp only [List.cons_append, resW, this, List.append_assoc, List.nil_append]
/-- A slice of strings that can be read. -/
structure StrsAt (w : World) (v : Value) (l : List ByteArray) : Prop where
  sl : ∃ ao c, v = .slice ao l.length c ∧ (l ≠ [] → ∃ b o, ao = some ⟨b, o, none⟩)
  at_ : ∀ b o n c, v = .slice (some ⟨b, o, none⟩) n c → w.rangeAt b o (l.map .string)
theorem StrsAt.fr {w w' : World} {v : Value} {l : List ByteArray} {S : Nat → Prop} (h : StrsAt w v l) (k : Fr w w' S) (hn : ∀ b, v.ownBlock = some b → ¬ S b) : StrsAt w' v l := by
  refine ⟨h.sl, fun b o n c hv j u hj => ?_⟩
  have h1 := h.at_ b o n c hv j u hj
  have hb : b < w.heap.size := by
    by_cases hb : b < w.heap.size
    · exact hb
    · have h0 : w.heap[b]? = none := Array.getElem?_eq_none (by omega)
      simp [World.cell?, h0] at h1
  exact (World.cell?_of_block (k.block b hb (hn b (by rw [hv]; rfl)))).trans h1
end Go.Proofs.YtjflcpkmoamijaaGreatDoor
namespace Go.Proofs.YtjflcpkmoamijaaGreatDoor
open Go.RowKit
set_option linter.unusedVariables false
set_option linter.unusedSimpArgs false
set_option linter.unnecessarySimpa false

theorem resW_append : ∀ (a : Nat) (l m : List ByteArray), resW a (l ++ m) = resW a l ++ resW (a + sumC l) m
  | a, [], m => by simp [resW, sumC]
  | a, x :: r, m => by
    have := resW_append (a + (1 + cnt x.size)) r m
    have e : a + (1 + cnt x.size) + sumC r = a + sumC (x :: r) := by simp [sumC]; omega
    rw [e] at this
    simp only [List.cons_append, resW, this, List.append_assoc]
theorem resW_len : ∀ (a : Nat) (l : List ByteArray), (resW a l).length = sumC l
  | a, [] => rfl
  | a, x :: r => by
    have := resW_len (a + (1 + cnt x.size)) r
    have e : sumC (x :: r) = 1 + cnt x.size + sumC r := by simp [sumC]
    simp only [resW, List.length_append, bodyW_len, List.length_cons, List.length_nil, this, e]
    omega
/-- An owned row of strings is no block of a device. -/
theorem strs_dev {w : World} {r : DRef} {D : Dev} {B : Nat} {v : Value} {l : List ByteArray} (h : w.ownsRow B 9 1 v l.length (l.map .string)) (d : DevIs w r D) {i : Nat} (hi : v.ownBlock = some i) : ¬ r.foot i := by
  intro hf
  rcases hf with rfl | rfl | rfl | hf
  · exact own_ne h d.hb (by decide) hi rfl
  · exact own_ne h d.hf (by decide) hi rfl
  · exact own_ne h d.hn (by decide) hi rfl
  · obtain ⟨c, hc⟩ := own_elem h hi
    exact own_ne d.hl hc (by decide) hf rfl
theorem strs_step {w w' : World} {r r' : DRef} {D : Dev} {B : Nat} {v : Value} {l : List ByteArray} (h : w.ownsRow B 9 1 v l.length (l.map .string)) (d : DevIs w r D) (k : DStep w r w' r') : w'.ownsRow B 9 1 v l.length (l.map .string) :=
  k.fr.owns h (fun i hi => strs_dev h d hi)
theorem strs_cell {w : World} {B : Nat} {ao : Option Addr} {n c : Nat} {l : List ByteArray} (h : w.ownsRow B 9 1 (.slice ao n c) l.length (l.map .string)) {i : Nat} (hi : i < l.length) : ∃ g, ao = some ⟨g, 0, none⟩ ∧ w.cell? ⟨g, i, none⟩ = some (.string (l[i])) := by
  rcases h.2 with ⟨_, h0⟩ | ⟨g, cap', cur, hv, h2⟩
  · omega
  · injection hv with hv h3 h4
    subst hv; subst h3
    refine ⟨g, rfl, ?_⟩
    have k0 := h.cellAt i (by omega)
    rw [List.getElem?_map, List.getElem?_eq_getElem hi] at k0
    exact k0
theorem wrs_fail {D : Dev} {a b : List (Nat × ByteArray)} (h : (wrs D a).2 = false) : wrs D (a ++ b) = wrs D a := by rw [wrs_append, if_neg (by simp [h])]
theorem JIs.swap {w : World} {B jb db : Nat} {vr : Value} {ep u : Nat} {l : List ByteArray} (h : JIs w B jb db vr ep u l) {v2 : Value} {m : List ByteArray} (ho : w.ownsRow B 9 1 v2 m.length (m.map .string)) : JIs (w.setCell ⟨jb, 3, none⟩ v2) B jb db v2 ep u m := by
  have h1 := heap_setCell_same w jb 3 _ _ v2 h.hb
  have hne2 : v2.ownBlock ≠ some jb := fun e => own_ne ho h.hb (by decide) e rfl
  exact ⟨by rw [h1]; rfl, ownsRow_setCell_other ho (a := ⟨jb, 3, none⟩) hne2 v2⟩
set_option maxHeartbeats 2000000 in
set_option maxRecDepth 100000 in
theorem Reset_any (r : DRef) (J : Jn) (jb B B2 : Nat) (vr v : Value) (l : List ByteArray) (w : World) (h : DevIs w r J.D) (hj : JIs w B jb r.b vr J.ep J.u J.l) (hB : B ≤ w.heap.size)
    (hv : w.ownsRow B2 9 1 v l.length (l.map .string)) (hs : ∀ s ∈ l, s.size ≤ 10000000000000) (hl : l.length ≤ 1000000) (hep : J.ep ≤ 2147483647) (hlog : J.D.log.length ≤ 900000) :
    Calls Tryz.prog 57 #[.pointer (some ⟨jb, 0, none⟩), v] w (JPost r jb B vr (resetP J l) w) := by
  have ht := h.ok.top
  have hh := half_lt h
  have h1 := h.ok.pos
  obtain ⟨D, ep, u, l0⟩ := J
  simp only at h hj hlog hep ht hh h1
  have c0 := hj.c0
  have c1 := hj.c1
  have H := Lib.hid h
  have HJ := Lib.hid hj
  have HLG := Lib.hid hlog
  have HS := Lib.hid hs
  have HBB := Lib.hid hB
  have HV := Lib.hid hv
  obtain ⟨ao, cap, rfl⟩ : ∃ ao cap, v = .slice ao l.length cap := by
    rcases hv.2 with ⟨hv, h0⟩ | ⟨g, cap, cur, hv, _⟩
    · exact ⟨none, 0, by rw [hv, h0]⟩
    · exact ⟨_, cap, hv⟩
  clear h hj hlog hs hB hv
  have hsum : ∀ i, sumC (l.take i) ≤ l.length * 200000000000 := by
    intro i
    refine Nat.le_trans (sumC_take_le l i) ?_
    have hm : ∀ m : List ByteArray, (∀ s ∈ m, s.size ≤ 10000000000000) → sumC m ≤ m.length * 200000000000 := by
      intro m
      induction m with
      | nil => intro _; simp [sumC]
      | cons x m ih =>
        intro hx
        have a1 := ih (fun s hs => hx s (List.mem_cons_of_mem _ hs))
        have a2 := hx x List.mem_cons_self
        have e : sumC (x :: m) = 1 + cnt x.size + sumC m := by simp [sumC]
        have a3 : cnt x.size ≤ 160000000000 := by unfold cnt; omega
        simp only [List.length_cons]
        omega
    exact hm l HS.out
  have HSUM := Lib.hid hsum
  clear hsum
  go_enter Tryz.func57, Tryz.ntmps57
  go_wp2_with (first | (go_at_call 41; refine (half_any r D _ H.out).mono ?_; rintro e w2 ⟨rfl, rfl⟩))
  go_loopw [6, 26] (fun uv v wr => ∃ i : Nat, uv = .int .i64 (sumC (l.take i) : Nat) ∧ v = .int .i64 i ∧ i ≤ l.length ∧ wr = w2) (fun _ v _ => l.length - (intOf v).toNat)
  case atStart => exact ⟨0, by simp [sumC], rfl, by omega, rfl⟩
  case round =>
    obtain ⟨i, rfl, rfl, hi, rfl⟩ := hrel
    by_cases hic : i < l.length
    · have hic' : (i : Int) < (l.length : Int) := by omega
      obtain ⟨g, rfl, k0⟩ := strs_cell HV.out hic
      have hsz := HS.out (l[i]) (List.getElem_mem hic)
      have hsu := sumC_take_succ l i hic
      have hb1 := HSUM.out i
      have hb2 := HSUM.out (i + 1)
      have hcs : cnt (l[i]).size ≤ 160000000000 := by unfold cnt; omega
      have HSU := Lib.hid hsu
      rw [hsu] at hb2
      clear hsu
      generalize l[i] = s at *
      generalize sumC (l.take i) = a at *
      have q1 : wrap64 (1 + (cnt s.size : Int)) = ((1 + cnt s.size : Nat) : Int) := by unfold wrap64; omega
      have q2 : wrap64 ((a : Int) + ((1 + cnt s.size : Nat) : Int)) = ((a + (1 + cnt s.size) : Nat) : Int) := by unfold wrap64; omega
      go_wp2_with (first | (go_at_call 42; refine (cnt_any s.size _ (by omega)).mono ?_; rintro e w2 ⟨rfl, rfl⟩))
      go_roundw
      case rel => exact ⟨i + 1, by rw [HSU.out]; go_num, by go_num, by omega, by first | rfl | trivial⟩
      case measure => simp [intOf]; omega
    · have hic' : ¬ (i : Int) < (l.length : Int) := by omega
      obtain rfl : i = l.length := by omega
      have htl : l.take l.length = l := List.take_of_length_le (Nat.le_refl _)
      have hb1 := HSUM.out l.length
      rw [htl] at hb1 ⊢
      obtain ⟨us, hus⟩ : ∃ us, us = sumC l := ⟨_, rfl⟩
      rw [← hus] at hb1 ⊢
      by_cases hfit : hlf D < us
      · have hfit' : (hlf D : Int) < (us : Int) := by omega
        have HP : Hid (JPost r jb B vr (resetP ⟨D, ep, u, l0⟩ l) wr (.returned (.int .i64 20)) wr) := by
          have : resetP ⟨D, ep, u, l0⟩ l = (⟨D, ep, u, l0⟩, false) := by unfold resetP; exact if_pos (by rw [← hus]; exact hfit)
          show JPost _ _ _ _ _ _ _ _
          rw [this]
          exact JPost.dev (J := ⟨D, ep, u, l0⟩) (J' := ⟨D, ep, u, l0⟩) (b := false) HJ.out H.out H.out (DStep.of_fr (Fr.refl _ _)) rfl rfl rfl
        go_wp2_with fail
        go_ret
        exact HP.out
      · have hfit' : ¬ (hlf D : Int) < (us : Int) := by omega
        have HAP : Hid (resetP ⟨D, ep, u, l0⟩ l = if (wrs D (resetW D ep l)).2 then (⟨(wrs D (resetW D ep l)).1, nextE ep, us, l⟩, true) else (⟨(wrs D (resetW D ep l)).1, ep, u, l0⟩, false)) := by
          show _ = _; unfold resetP; rw [if_neg (by rw [← hus]; exact hfit), ← hus]
        obtain ⟨e1, he1⟩ : ∃ e1 : Nat, (ep : Int) + 1 = e1 := ⟨ep + 1, by simp⟩
        have q3 : wrap64 (e1 : Int) = (e1 : Int) := by unfold wrap64; omega
        have he2 : ep + 1 = e1 := by omega
        obtain ⟨nx, hnx⟩ : ∃ nx : Nat, nextE ep = nx := ⟨_, rfl⟩
        have hnl : nx ≤ 2147483647 := by rw [← hnx]; unfold nextE; split <;> omega
        have hfa := fst0_le (D := D) nx
        have hf1 : 1 ≤ fst0 D nx := by unfold fst0; split <;> omega
        obtain ⟨f, hf⟩ : ∃ f : Nat, fst0 D nx = f := ⟨_, rfl⟩
        rw [hf] at hfa hf1
        have HRS : Hid (resetW D ep l = resW f l ++ ((if us < hlf D then [(f + us, (⟨#[]⟩ : ByteArray))] else []) ++ [(0, rootS nx)])) := by
          show _ = _; unfold resetW; rw [hnx, hf, ← hus]
        have HNX := Lib.hid hnx
        have HFF := Lib.hid hf
        have HE2 := Lib.hid he2
        have HUS := Lib.hid hus
        clear hnx hf he2 hus htl hic hic' hi
        by_cases hov : 2147483647 < e1
        focus
          have hov' : (2147483647 : Int) < (e1 : Int) := by omega
          obtain rfl : nx = 0 := by rw [← HNX.out]; unfold nextE; exact if_pos (by have := HE2.out; omega)
          go_wp2_with fail
        rotate_left
        focus
          have hov' : ¬ (2147483647 : Int) < (e1 : Int) := by omega
          obtain rfl : nx = e1 := by rw [← HNX.out]; unfold nextE; rw [if_neg (by have := HE2.out; omega)]; exact HE2.out
          go_wp2_with fail
        all_goals
          first | refine (first_any r D nx wr H.out).mono ?_ | refine (first_any r D 0 wr H.out).mono ?_
          rintro e w3 ⟨rfl, rfl⟩
          rw [HFF.out]
          clear q3 he1 HE2 hov hov' hfit'
          go_wp2_with fail
          go_loopw [10, 55] (fun av v w4 => ∃ (i : Nat) (r' : DRef), av = .int .i64 (f + sumC (l.take i) : Nat) ∧ v = .int .i64 i ∧ i ≤ l.length ∧ (wrs D (resW f (l.take i))).2 = true ∧ Hid (DevIs w4 r' (wrs D (resW f (l.take i))).1) ∧ Hid (DStep w3 r w4 r')) (fun _ v _ => l.length - (intOf v).toNat)
          case atStart => exact ⟨0, r, by simp [sumC], rfl, by omega, rfl, H.out, DStep.of_fr (Fr.refl _ _)⟩
          case round =>
            obtain ⟨i, r', rfl, rfl, hi, hok, hD, hT⟩ := hrel
            have hrb := hT.out.b
            by_cases hic : i < l.length
            · have hic' : (i : Int) < (l.length : Int) := by omega
              have HVr := strs_step HV.out H.out hT.out
              obtain ⟨g, rfl, k0⟩ := strs_cell HVr hic
              clear HVr
              have hsz := HS.out (l[i]) (List.getElem_mem hic)
              have hle := sumC_take_le l (i + 1)
              rw [← HUS.out] at hle
              obtain ⟨at_, hat⟩ : ∃ at_, f + sumC (l.take i) = at_ := ⟨_, rfl⟩
              have hX : resW f (l.take (i + 1)) = resW f (l.take i) ++ (bodyW at_ (l[i]) ++ [(at_, headS (l[i]).size)]) := by
                rw [List.take_succ_eq_append_getElem hic, resW_app, hat]
              have hrest : ∃ rest, resetW D ep l = resW f (l.take i) ++ (bodyW at_ (l[i]) ++ ([(at_, headS (l[i]).size)] ++ rest)) := by
                obtain ⟨tail, hRT⟩ : ∃ tail, resetW D ep l = resW f l ++ tail := ⟨_, HRS.out⟩
                refine ⟨resW (f + sumC (l.take (i + 1))) (l.drop (i + 1)) ++ tail, ?_⟩
                rw [hRT]
                conv => lhs; lhs; rw [← List.take_append_drop (i + 1) l, resW_append, hX]
                simp only [List.append_assoc]
              obtain ⟨rest, hrest⟩ := hrest
              have hsc := sumC_take_succ l i hic
              have hnx1 : f + sumC (l.take (i + 1)) = at_ + (1 + cnt (l[i]).size) := by rw [hsc]; omega
              have hat1 : at_ + 1 + cnt (l[i]).size ≤ D.now.length := by rw [hsc] at hle; omega
              have hlenD := wrs_len D (resW f (l.take i))
              rw [resW_len] at hlenD
              have hlgD : (wrs D (resW f (l.take i))).1.log.length ≤ 1000000 := by have := HLG.out; rw [hsc] at hle; omega
              have HW1 : Hid (wrs D (resetW D ep l) = wrs (wrs D (resW f (l.take i))).1 (bodyW at_ (l[i]) ++ ([(at_, headS (l[i]).size)] ++ rest))) := by
                show _ = _; rw [hrest, wrs_append, if_pos hok]
              have HW2 : Hid (wrs D (resW f (l.take (i + 1))) = wrs (wrs D (resW f (l.take i))).1 (bodyW at_ (l[i]) ++ [(at_, headS (l[i]).size)])) := by
                show _ = _; rw [hX, wrs_append, if_pos hok]
              have HN1 := Lib.hid hnx1
              have hDl := hlenD.1
              rw [hat]
              clear hrest hX hsc hnx1 hlenD hle hat
              generalize l[i] = s at *
              generalize (wrs D (resW f (l.take i))).1 = Di at *
              have hJ := Lib.hid (HJ.out.step H.out hT.out)
              have c4 := hJ.out.c0
              go_wp2_with fail
              refine (body_any r' Di jb at_ B vr ep u l0 s wr hD.out (by rw [hrb]; exact hJ.out) (by omega) hlgD).mono ?_
              rintro e w5 ⟨rfl, r5, d5, k5⟩
              have D5 := Lib.hid d5
              have K5 := Lib.hid (hT.out.trans k5)
              have hr5 : r5.b = r.b := k5.b.trans hrb
              have J5 := Lib.hid (HJ.out.step H.out K5.out)
              have hlen5 := wrs_len Di (bodyW at_ s)
              rw [bodyW_len] at hlen5
              clear d5 k5 c4 hJ
              rcases hb5 : (wrs Di (bodyW at_ s)).2 with _ | _
              · have HP : Hid (JPost r jb B vr (resetP ⟨D, ep, u, l0⟩ l) w3 (.returned (.int .i64 20)) w5) := by
                  have hx : wrs D (resetW D ep l) = wrs Di (bodyW at_ s) := by rw [HW1.out, wrs_fail hb5]
                  show JPost _ _ _ _ _ _ _ _
                  rw [HAP.out, hx, if_neg (by simp [hb5])]
                  exact JPost.dev (J := ⟨D, ep, u, l0⟩) (J' := ⟨(wrs Di (bodyW at_ s)).1, ep, u, l0⟩) (b := false) HJ.out H.out D5.out K5.out rfl rfl rfl
                clear HAP HW1 HW2
                simp only [okE, Bool.false_eq_true, if_false]
                go_wp2_with fail
                go_ret
                exact HP.out
              · have HW3 : Hid (wrs D (resetW D ep l) = wrs (wrs Di (bodyW at_ s)).1 ([(at_, headS s.size)] ++ rest)) := by
                  show _ = _; rw [HW1.out, wrs_append, if_pos hb5]
                have HW4 : Hid (wrs D (resW f (l.take (i + 1))) = dwr (wrs Di (bodyW at_ s)).1 at_ (headS s.size)) := by
                  show _ = _; rw [HW2.out, wrs_append, if_pos hb5, wrs_one]
                have hlg5 : (wrs Di (bodyW at_ s)).1.log.length ≤ 2000000 := by omega
                have hln5 : (wrs Di (bodyW at_ s)).1.now.length = D.now.length := by omega
                clear HW1 HW2 hlen5 hb5
                generalize (wrs Di (bodyW at_ s)).1 = D5' at *
                have c5 := J5.out.c0
                simp only [okE, if_true]
                go_wp2_with fail
                refine region_seq (fun w' => w'.cell? ⟨jb, 0, none⟩ = some (.pointer (some ⟨r.b, 0, none⟩))) []
                  [(.p, 0), (.p, 1), (.p, 2), (.q, 3), (.p, 4), (.p, 5), (.l, 6), (.l, 7), (.p, 8)] (by kernel_rfl) (by kernel_rfl) (by kernel_rfl) (by kernel_rfl) (fun d v c a w h => by cases d <;> exact h) ?_
                have hS : w5.drew.cell? ⟨jb, 0, none⟩ = some (.pointer (some ⟨r.b, 0, none⟩)) := c5
                (refine seq_p (N := some 66) rfl rfl (by rfl) ?_ (fun w' => ?_) ?_
                 rotate_left
                 · go_simp
                   with_reducible rfl
                 simp only [Act.put, List.setIfInBounds_toArray, List.set_cons_zero, List.set_cons_succ])
                (refine seq_p (N := some 67) rfl rfl (by rfl) ?_ (fun w' => ?_) ?_
                 rotate_left
                 · go_simp
                   with_reducible rfl
                 simp only [Act.put, List.setIfInBounds_toArray, List.set_cons_zero, List.set_cons_succ])
                (refine seq_p (N := some 68) rfl rfl (by rfl) ?_ (fun w' => ?_) ?_
                 rotate_left
                 · go_simp
                   with_reducible rfl
                 simp only [Act.put, List.setIfInBounds_toArray, List.set_cons_zero, List.set_cons_succ])
                (refine seq_q (N := some 69) rfl rfl (by rfl) ?_ ?_ hS ?_
                 rotate_left
                 · rintro w' s1
                   go_simp
                   with_reducible rfl
                 simp only [Act.put, List.setIfInBounds_toArray, List.set_cons_zero, List.set_cons_succ])
                (refine seq_p (N := some 70) rfl rfl (by rfl) ?_ (fun w' => ?_) ?_
                 rotate_left
                 · go_simp
                   with_reducible rfl
                 simp only [Act.put, List.setIfInBounds_toArray, List.set_cons_zero, List.set_cons_succ])
                (refine seq_p (N := some 71) rfl rfl (by rfl) ?_ (fun w' => ?_) ?_
                 rotate_left
                 · go_simp
                   with_reducible rfl
                 simp only [Act.put, List.setIfInBounds_toArray, List.set_cons_zero, List.set_cons_succ])
                refine seq_l rfl (by rfl) (wp_cl (N := some 72) (f := 45) (vs := #[.string s]) rfl rfl (by simp [Act.eval]) (callF Tryz.func45 rfl (by decide) _ _) ?_)
                refine (header_any s _ (by omega)).mono ?_
                rintro e w6 ⟨rfl, b6⟩
                have b6' : Below w5.heap.size w5 w6 := ((Below.refl w5.heap.size w5).drew).trans (by exact b6)
                have D6 := Lib.hid (D5.out.below b6')
                have K6 := Lib.hid (K5.out.trans (DStep.of_fr (Fr.of_below b6' _)))
                have J6 := Lib.hid (HJ.out.step H.out K6.out)
                refine ⟨_, rfl, ?_⟩
                simp only [Act.put, List.setIfInBounds_toArray, List.set_cons_zero, List.set_cons_succ]
                refine ⟨fun _ => J6.out.c0, ?_⟩
                clear b6 b6' J5 c5 hS
                refine seq_l rfl (by rfl) (wp_cl (N := some 73) (f := 37) (vs := #[.pointer (some ⟨r5.b, 0, none⟩), .int .i64 at_, .string (headS s.size)]) rfl rfl (by simp [Act.eval, hr5]) (callF Tryz.func37 rfl (by decide) _ _) ?_)
                refine (Wr_any r5 D5' at_ (headS s.size) w6 D6.out (by omega) (headS_size _) (by omega)).mono ?_
                rintro e w7 ⟨rfl, r7, d7, k7⟩
                have D7 := Lib.hid d7
                have K7 := Lib.hid (K6.out.trans k7)
                have J7 := Lib.hid (HJ.out.step H.out K7.out)
                have hr7 : r7.b = r.b := k7.b.trans hr5
                refine ⟨_, rfl, ?_⟩
                simp only [Act.put, List.setIfInBounds_toArray, List.set_cons_zero, List.set_cons_succ]
                refine ⟨fun _ => J7.out.c0, ?_⟩
                clear d7 k7 J6 K6 K5 D5 D6
                (refine seq_p (N := some 14) rfl rfl (by rfl) ?_ (fun w' => ?_) ?_
                 rotate_left
                 · go_simp
                   with_reducible rfl
                 simp only [Act.put, List.setIfInBounds_toArray, List.set_cons_zero, List.set_cons_succ])
                refine seq_nil ?_
                rcases hb7 : (dwr D5' at_ (headS s.size)).2 with _ | _
                · have HP : Hid (JPost r jb B vr (resetP ⟨D, ep, u, l0⟩ l) w3 (.returned (.int .i64 20)) w7) := by
                    have hx : wrs D (resetW D ep l) = dwr D5' at_ (headS s.size) := by rw [HW3.out, wrs_fail (by rw [wrs_one]; exact hb7), wrs_one]
                    show JPost _ _ _ _ _ _ _ _
                    rw [HAP.out, hx, if_neg (by simp [hb7])]
                    exact JPost.dev (J := ⟨D, ep, u, l0⟩) (J' := ⟨(dwr D5' at_ (headS s.size)).1, ep, u, l0⟩) (b := false) HJ.out H.out D7.out K7.out rfl rfl rfl
                  clear HAP HW3 HW4
                  simp only [okE, Bool.false_eq_true, if_false]
                  go_wp2_with fail
                  go_ret
                  exact HP.out
                · have HOK : Hid ((wrs D (resW f (l.take (i + 1)))).2 = true) := by show _ = _; rw [HW4.out]; exact hb7
                  have HD7 : Hid (DevIs w7 r7 (wrs D (resW f (l.take (i + 1)))).1) := by show DevIs _ _ _; rw [HW4.out]; exact D7.out
                  clear HW3 HW4 HAP D7 hb7
                  simp only [okE, if_true]
                  have hcs : cnt s.size ≤ 65536 := by omega
                  obtain ⟨k1, hk1⟩ : ∃ k1 : Nat, 1 + (cnt s.size : Int) = k1 := ⟨1 + cnt s.size, by simp⟩
                  obtain ⟨k2, hk2⟩ : ∃ k2 : Nat, (at_ : Int) + k1 = k2 := ⟨at_ + (1 + cnt s.size), by simp; omega⟩
                  have HK2 : Hid (k2 = f + sumC (l.take (i + 1))) := by show _ = _; have := HN1.out; omega
                  go_wp2_with (first | (go_at_call 42; refine (cnt_any s.size _ (by omega)).mono ?_; rintro e w8 ⟨rfl, rfl⟩))
                  go_roundw
                  case rel => exact ⟨i + 1, r7, by rw [← HK2.out], by go_num, by omega, HOK.out, HD7.out, K7.out⟩
                  case measure => simp [intOf]; omega
            · have hic' : ¬ (i : Int) < (l.length : Int) := by omega
              obtain rfl : i = l.length := by omega
              have htl : l.take l.length = l := List.take_of_length_le (Nat.le_refl _)
              rw [htl] at hok hD ⊢
              rw [← HUS.out]
              have hlen4 := wrs_len D (resW f l)
              rw [resW_len, ← HUS.out] at hlen4
              have hlg4 : (wrs D (resW f l)).1.log.length ≤ 1000000 := by have := HLG.out; omega
              have HD4 : Hid (wrs D (resW f l) = ((wrs D (resW f l)).1, true)) := by show _ = _; rw [← hok]
              generalize hD4 : (wrs D (resW f l)).1 = D4' at *
              clear hD4 hok htl hic hic' hi
              have J4 := Lib.hid (HJ.out.step H.out hT.out)
              have c0 := J4.out.c0
              obtain ⟨an, han⟩ : ∃ an : Nat, f + us = an := ⟨_, rfl⟩
              rw [han] at HRS ⊢
              by_cases hl3 : us < hlf D
              focus
                have hl3' : (us : Int) < (hlf D : Int) := by omega
                have HAW2 : Hid (∃ q, wrs D (resetW D ep l) = wrs D4' ((an, (⟨#[]⟩ : ByteArray)) :: [(0, rootS q)]) ∧ nextE ep = q) := by
                  refine ⟨_, ?_, HNX.out⟩
                  rw [HRS.out, if_pos hl3, wrs_append, if_pos (by rw [HD4.out]), HD4.out]; rfl
                have han1 : an < D4'.now.length := by omega
                go_wp2_with fail
                rw [← hrb]
                refine (Wr_any r' D4' an ⟨#[]⟩ wr hD.out han1 (by decide) (by omega)).mono ?_
                rintro e w5 ⟨rfl, r5, d5, k5⟩
                have hlen5 := dwr_len D4' an (⟨#[]⟩ : ByteArray)
                have D5 := Lib.hid d5
                have K5 := Lib.hid (hT.out.trans k5)
                have hr5 : r5.b = r.b := k5.b.trans hrb
                clear d5 k5 c0
                rcases hb5 : (dwr D4' an (⟨#[]⟩ : ByteArray)).2 with _ | _
                focus
                  have HP : Hid (JPost r jb B vr (resetP ⟨D, ep, u, l0⟩ l) w3 (.returned (.int .i64 20)) w5) := by
                    obtain ⟨q, hq, _⟩ := HAW2.out
                    have hx : wrs D (resetW D ep l) = dwr D4' an (⟨#[]⟩ : ByteArray) := by
                      rw [hq]; unfold wrs; rw [if_neg (by simp [hb5])]
                    show JPost _ _ _ _ _ _ _ _
                    rw [HAP.out, hx, if_neg (by simp [hb5])]
                    exact JPost.dev (J := ⟨D, ep, u, l0⟩) (J' := ⟨(dwr D4' an (⟨#[]⟩ : ByteArray)).1, ep, u, l0⟩) (b := false) HJ.out H.out D5.out K5.out rfl rfl rfl
                  clear HAP HAW2
                  simp only [okE, Bool.false_eq_true, if_false]
                  go_wp2_with fail
                  go_ret
                  exact HP.out
                have HAW5 : Hid (∃ q, wrs D (resetW D ep l) = dwr (dwr D4' an (⟨#[]⟩ : ByteArray)).1 0 (rootS q) ∧ nextE ep = q) := by
                  obtain ⟨q, hq, h2⟩ := HAW2.out
                  refine ⟨q, ?_, h2⟩
                  rw [hq, wrs, if_pos (by simp [hb5]), wrs_one]
                generalize (dwr D4' an (⟨#[]⟩ : ByteArray)).1 = D5' at *
                have hlg5 : D5'.log.length ≤ 3000000 := by omega
                have hln5 : D5'.now.length = D.now.length := by omega
                clear HAW2 hlen4 hlg4 hrb han1 hlen5 HD4 hb5 J4 hD hT
                simp only [okE, if_true]
                go_wp2_with fail
              rotate_left
              focus
                have hl3' : ¬ (us : Int) < (hlf D : Int) := by omega
                have HAW5 : Hid (∃ q, wrs D (resetW D ep l) = dwr D4' 0 (rootS q) ∧ nextE ep = q) := by
                  refine ⟨_, ?_, HNX.out⟩
                  rw [HRS.out, if_neg hl3, wrs_append, if_pos (by rw [HD4.out]), HD4.out]; exact wrs_one _ _ _
                go_wp2_with fail
                have D5 := hD
                have K5 := hT
                have hr5 := hrb
                have hlg5 : D4'.log.length ≤ 3000000 := by omega
                have hln5 : D4'.now.length = D.now.length := by omega
                clear J4 hD hT hlen4 hlg4 hrb HD4 c0
                generalize D4' = D5' at *
                generalize wr = w5 at *
                generalize r' = r5 at *
              all_goals
                obtain ⟨q, hq, hnq⟩ := HAW5.out
                have c0 := (HJ.out.step H.out K5.out).c0
                refine region_seq (fun w' => w'.cell? ⟨jb, 0, none⟩ = some (.pointer (some ⟨r.b, 0, none⟩))) []
                  [(.p, 0), (.p, 1), (.p, 2), (.q, 3), (.p, 4), (.l, 5), (.l, 6), (.p, 7)] (by kernel_rfl) (by kernel_rfl) (by kernel_rfl) (by kernel_rfl) (fun d v c a w h => by cases d <;> exact h) ?_
                have hS : w5.drew.cell? ⟨jb, 0, none⟩ = some (.pointer (some ⟨r.b, 0, none⟩)) := c0
                (refine seq_p (N := some 96) rfl rfl (by rfl) ?_ (fun w' => ?_) ?_
                 rotate_left
                 · go_simp
                   with_reducible rfl
                 simp only [Act.put, List.setIfInBounds_toArray, List.set_cons_zero, List.set_cons_succ])
                (refine seq_p (N := some 97) rfl rfl (by rfl) ?_ (fun w' => ?_) ?_
                 rotate_left
                 · go_simp
                   with_reducible rfl
                 simp only [Act.put, List.setIfInBounds_toArray, List.set_cons_zero, List.set_cons_succ])
                (refine seq_p (N := some 98) rfl rfl (by rfl) ?_ (fun w' => ?_) ?_
                 rotate_left
                 · go_simp
                   with_reducible rfl
                 simp only [Act.put, List.setIfInBounds_toArray, List.set_cons_zero, List.set_cons_succ])
                (refine seq_q (N := some 99) rfl rfl (by rfl) ?_ ?_ hS ?_
                 rotate_left
                 · rintro w' s1
                   go_simp
                   with_reducible rfl
                 simp only [Act.put, List.setIfInBounds_toArray, List.set_cons_zero, List.set_cons_succ])
                (refine seq_p (N := some 100) rfl rfl (by rfl) ?_ (fun w' => ?_) ?_
                 rotate_left
                 · go_simp
                   with_reducible rfl
                 simp only [Act.put, List.setIfInBounds_toArray, List.set_cons_zero, List.set_cons_succ])
                refine seq_l rfl (by rfl) (wp_cl (N := some 101) (f := 38) (vs := #[.int .i64 (q : Nat)]) rfl rfl (by rw [← hnq]; simp [Act.eval, HNX.out]) (callF Tryz.func38 rfl (by decide) _ _) ?_)
                refine (root_any q _ (by rw [← hnq, HNX.out]; omega)).mono ?_
                rintro e w6 ⟨rfl, b6⟩
                have b6' : Below w5.heap.size w5 w6 := ((Below.refl w5.heap.size w5).drew).trans (by exact b6)
                have D6 := Lib.hid (D5.out.below b6')
                have K6 := Lib.hid (K5.out.trans (DStep.of_fr (Fr.of_below b6' _)))
                have J6 := Lib.hid (HJ.out.step H.out K6.out)
                refine ⟨_, rfl, ?_⟩
                simp only [Act.put, List.setIfInBounds_toArray, List.set_cons_zero, List.set_cons_succ]
                refine ⟨fun _ => J6.out.c0, ?_⟩
                clear b6 b6' c0 hS
                refine seq_l rfl (by rfl) (wp_cl (N := some 102) (f := 37) (vs := #[.pointer (some ⟨r5.b, 0, none⟩), .int .i64 ((0 : Nat) : Int), .string (rootS q)]) rfl rfl (by simp [Act.eval, hr5]) (callF Tryz.func37 rfl (by decide) _ _) ?_)
                refine (Wr_any r5 D5' 0 (rootS q) w6 D6.out (by omega) (rootS_size _) (by omega)).mono ?_
                rintro e w7 ⟨rfl, r7, d7, k7⟩
                have D7 := Lib.hid d7
                have K7 := Lib.hid (K6.out.trans k7)
                have J7 := Lib.hid (HJ.out.step H.out K7.out)
                have hr7 : r7.b = r.b := k7.b.trans hr5
                refine ⟨_, rfl, ?_⟩
                simp only [Act.put, List.setIfInBounds_toArray, List.set_cons_zero, List.set_cons_succ]
                refine ⟨fun _ => J7.out.c0, ?_⟩
                clear d7 k7 J6 K6 K5 D5 D6
                (refine seq_p (N := some 16) rfl rfl (by rfl) ?_ (fun w' => ?_) ?_
                 rotate_left
                 · go_simp
                   with_reducible rfl
                 simp only [Act.put, List.setIfInBounds_toArray, List.set_cons_zero, List.set_cons_succ])
                refine seq_nil ?_
                rcases hb7 : (dwr D5' 0 (rootS q)).2 with _ | _
                · have HP : Hid (JPost r jb B vr (resetP ⟨D, ep, u, l0⟩ l) w3 (.returned (.int .i64 20)) w7) := by
                    show JPost _ _ _ _ _ _ _ _
                    rw [HAP.out, hq, if_neg (by simp [hb7])]
                    exact JPost.dev (J := ⟨D, ep, u, l0⟩) (J' := ⟨(dwr D5' 0 (rootS q)).1, ep, u, l0⟩) (b := false) HJ.out H.out D7.out K7.out rfl rfl rfl
                  clear HAP hq
                  simp only [okE, Bool.false_eq_true, if_false]
                  go_wp2_with fail
                  go_ret
                  exact HP.out
                · have HAP2 : Hid (resetP ⟨D, ep, u, l0⟩ l = (⟨(dwr D5' 0 (rootS q)).1, nextE ep, us, l⟩, true)) := by
                    show _ = _; rw [HAP.out, hq, if_pos hb7]
                  generalize (dwr D5' 0 (rootS q)).1 = D7' at *
                  clear HAP hq hb7
                  simp only [okE, if_true]
                  go_wp2_with fail
                  refine (clone_any _ l w7 B2 (strs_step HV.out H.out K7.out) hl).mono ?_
                  rintro e w9 ⟨v9, rfl, o9, b9⟩
                  have D9 := Lib.hid (D7.out.below b9)
                  have J9 := Lib.hid (J7.out.fr (Fr.of_below b9 Nowhere) (fun _ _ h => h))
                  have hBw : B ≤ w7.heap.size := Nat.le_trans HBB.out K7.out.fr.size
                  have O9 := Lib.hid o9
                  have F9 : Hid (Fr w3 w9 (fun k => r.foot k ∨ jfoot jb vr k)) := (K7.out.fr.mono (fun _ _ h => Or.inl h)).trans (Fr.of_below b9 Nowhere) (fun _ _ h => absurd h (fun h => h))
                  have HW79 : Hid (w7.heap.size ≤ w9.heap.size) := b9.size
                  have g1 := J9.out.c1
                  have g2 := J9.out.c2
                  have g3 := J9.out.c3
                  have f1 := J9.out.fz 1
                  have f2 := J9.out.fz 2
                  have f3 := J9.out.fz 3
                  clear o9 b9 J7
                  obtain ⟨a9, n9, c9, rfl⟩ : ∃ ao n' cap, v9 = .slice ao n' cap := by
                    rcases O9.out.2 with ⟨hv, _⟩ | ⟨g, cap, cur, hv, _⟩
                    · exact ⟨_, _, _, hv⟩
                    · exact ⟨_, _, _, hv⟩
                  have he : nextE ep = q := hnq
                  have P1 : JIs (w9.setCell ⟨jb, 1, none⟩ (.int .i64 (q : Nat))) B jb r.b vr q u l0 := J9.out.put 1 _ rfl rfl
                  have P2 : JIs ((w9.setCell ⟨jb, 1, none⟩ (.int .i64 (q : Nat))).setCell ⟨jb, 2, none⟩ (.int .i64 us)) B jb r.b vr q us l0 := P1.put 2 _ rfl rfl
                  have hn1 : (Value.slice a9 n9 c9).ownBlock ≠ some jb := fun e => own_ne O9.out J9.out.hb (by decide) e rfl
                  have O11 := ownsRow_setCell_other (ownsRow_setCell_other O9.out (a := ⟨jb, 1, none⟩) hn1 (.int .i64 (q : Nat))) (a := ⟨jb, 2, none⟩) hn1 (.int .i64 us)
                  have P3 := Lib.hid (P2.swap (own_base_le hBw O11))
                  clear P1 P2 O11 hn1
                  go_wp2_with fail
                  go_ret
                  show JPost _ _ _ _ _ _ _ _
                  rw [HAP2.out]
                  refine ⟨rfl, r7, .slice a9 n9 c9, ?_, ?_, hr7, ?_, ?_, ?_⟩
                  · refine D9.out.fr (S := fun k => jfoot jb vr k) ((((Fr.refl w9 _).setCell ⟨jb, 1, none⟩ _ (fun _ => .inl rfl)).setCell ⟨jb, 2, none⟩ _ (fun _ => .inl rfl)).setCell ⟨jb, 3, none⟩ _ (fun _ => .inl rfl)) (fun i hi hj => jfoot_dev J9.out D9.out hj hi)
                  · have e0 := he.symm.trans HNX.out
                    show JIs _ _ _ _ _ (nextE ep) us l
                    have hp := P3.out
                    rw [he]
                    rw [e0] at hp ⊢
                    exact hp
                  · exact ((F9.out.setCell ⟨jb, 1, none⟩ _ (fun _ => .inr (.inl rfl))).setCell ⟨jb, 2, none⟩ _ (fun _ => .inr (.inl rfl))).setCell ⟨jb, 3, none⟩ _ (fun _ => .inr (.inl rfl))
                  · intro k hk hf
                    exact K7.out.sub k hk hf
                  · intro k hk hf
                    rcases hf with rfl | hf
                    · exact .inl rfl
                    · have h9 := (own_base' O9.out hf).1
                      have := K7.out.fr.size
                      omega
end Go.Proofs.YtjflcpkmoamijaaGreatDoor
namespace Go.Proofs.YtjflcpkmoamijaaGreatDoor
open Go.RowKit
set_option linter.unusedVariables false
set_option linter.unusedSimpArgs false
set_option linter.unnecessarySimpa false

/-! ### A number written and read again -/
theorem low7 (c : Nat) (h : c < 256) : bits .and .u8 (c : Int) 127 = ((c % 128 : Nat) : Int) := by
  have : ∀ k : Fin 256, bits .and .u8 ((k.val : Nat) : Int) 127 = ((k.val % 128 : Nat) : Int) := by decide +kernel
  exact this ⟨c, h⟩
theorem or_disj (m x k : Nat) (hm : m < 2 ^ k) (h : m + x * 2 ^ k < 18446744073709551616) : bits .or .u64 (m : Int) ((x * 2 ^ k : Nat) : Int) = ((m + x * 2 ^ k : Nat) : Int) := by
  show IntKind.u64.wrap (((BitVec.ofInt 64 (m : Int) ||| BitVec.ofInt 64 ((x * 2 ^ k : Nat) : Int)).toNat : Nat) : Int) = _
  rw [wrap_u64', BitVec.toNat_or, BitVec.toNat_ofInt, BitVec.toNat_ofInt]
  have e1 : ((m : Int) % (2 ^ 64 : Nat)).toNat = m := by
    have : (2 ^ 64 : Nat) = 18446744073709551616 := by decide
    rw [this]; omega
  have e2 : (((x * 2 ^ k : Nat) : Int) % (2 ^ 64 : Nat)).toNat = x * 2 ^ k := by
    have : (2 ^ 64 : Nat) = 18446744073709551616 := by decide
    rw [this]; omega
  rw [e1, e2]
  have h3 : m ||| x * 2 ^ k = m + x * 2 ^ k := by
    have := Nat.two_pow_add_eq_or_of_lt hm x
    rw [Nat.mul_comm] at this
    rw [Nat.or_comm, ← this, Nat.add_comm]
  rw [h3]
  omega
theorem rdStep_eq (m c k : Nat) (hc : c < 256) (hm : m < 2 ^ (7 * k)) (h : m + c % 128 * 2 ^ (7 * k) < 18446744073709551616) : rdStep (m : Int) c k = ((m + c % 128 * 2 ^ (7 * k) : Nat) : Int) := by
  unfold rdStep
  rw [low7 c hc, wrap_u64', wrap_u64']
  have e0 : ((c % 128 : Nat) : Int) % 18446744073709551616 = ((c % 128 : Nat) : Int) := by omega
  rw [e0]
  have e1 : ((c % 128 : Nat) : Int) * 2 ^ (7 * k) = ((c % 128 * 2 ^ (7 * k) : Nat) : Int) := by push_cast; rfl
  rw [e1]
  have e2 : ((c % 128 * 2 ^ (7 * k) : Nat) : Int) % 18446744073709551616 = ((c % 128 * 2 ^ (7 * k) : Nat) : Int) := by omega
  rw [e2]
  exact or_disj m (c % 128) (7 * k) hm h
theorem byteAt_data (s : ByteArray) (a : Nat) (c : UInt8) (h : s.data.toList[a]? = some c) : a < s.size ∧ byteAt s a = c.toNat := by
  have h1 := (List.getElem?_eq_some_iff.1 h).1
  have h2 : a < s.size := h1
  refine ⟨h2, ?_⟩
  have h3 := (List.getElem?_eq_some_iff.1 h).2
  unfold byteAt
  rw [dif_pos h2, ← h3]
  rfl
theorem uint_round (s : ByteArray) : ∀ (f k a m n : Nat) (rest : List UInt8), k + f = 9 → s.data.toList.drop a = encF f n ++ rest → m < 2 ^ (7 * k) → m + n * 2 ^ (7 * k) < 18446744073709551616 → (0 < k → 0 < n) →
    uintGo s (f + 1) k a (m : Int) = (((m + n * 2 ^ (7 * k) : Nat) : Int), 0, a + (encF f n).length) := by
  intro f
  induction f with
  | zero =>
    intro k a m n rest hk hd hm hn hpos
    have hk9 : k = 9 := by omega
    subst hk9
    have hn1 : n ≤ 1 := by
      have : (2 : Nat) ^ (7 * 9) = 9223372036854775808 := by decide
      rw [this] at hn; omega
    have hg : s.data.toList[a]? = some (UInt8.ofNat n) := by
      have := congrArg (fun l => l[0]?) hd
      simp only [List.getElem?_drop, Nat.add_zero] at this
      rw [this]; simp [encF]
    obtain ⟨h1, h2⟩ := byteAt_data s a _ hg
    have h3 : (UInt8.ofNat n).toNat = n := by simp; omega
    rw [h3] at h2
    rw [uintGo_ok h1 (by omega) (by omega), h2, rdStep_eq m n 9 (by omega) hm (by rw [Nat.mod_eq_of_lt (by omega)]; exact hn), Nat.mod_eq_of_lt (by omega)]
    rfl
  | succ f ih =>
    intro k a m n rest hk hd hm hn hpos
    by_cases hs : n < 128
    · rw [encF_small hs] at hd ⊢
      have hg : s.data.toList[a]? = some (UInt8.ofNat n) := by
        have := congrArg (fun l => l[0]?) hd
        simp only [List.getElem?_drop, Nat.add_zero] at this
        rw [this]; simp
      obtain ⟨h1, h2⟩ := byteAt_data s a _ hg
      have h3 : (UInt8.ofNat n).toNat = n := by simp; omega
      rw [h3] at h2
      rw [uintGo_ok h1 (by omega) (by omega), h2, rdStep_eq m n k (by omega) hm (by rw [Nat.mod_eq_of_lt hs]; exact hn), Nat.mod_eq_of_lt hs]
      rfl
    · rw [encF_big hs] at hd ⊢
      have hg : s.data.toList[a]? = some (UInt8.ofNat (n % 128 + 128)) := by
        have := congrArg (fun l => l[0]?) hd
        simp only [List.getElem?_drop, Nat.add_zero] at this
        rw [this]; simp
      obtain ⟨h1, h2⟩ := byteAt_data s a _ hg
      have h3 : (UInt8.ofNat (n % 128 + 128)).toNat = n % 128 + 128 := by simp; omega
      rw [h3] at h2
      have hp : (2 : Nat) ^ (7 * (k + 1)) = 128 * 2 ^ (7 * k) := by
        rw [show 7 * (k + 1) = 7 + 7 * k by omega, Nat.pow_add]
      have hmod : (n % 128 + 128) % 128 = n % 128 := by omega
      have hval : m + n % 128 * 2 ^ (7 * k) + n / 128 * 2 ^ (7 * (k + 1)) = m + n * 2 ^ (7 * k) := by
        rw [hp]
        have := Nat.div_add_mod n 128
        have e : n * 2 ^ (7 * k) = (128 * (n / 128) + n % 128) * 2 ^ (7 * k) := by rw [this]
        rw [e, Nat.add_mul, Nat.mul_assoc, Nat.mul_left_comm 128]
        omega
      have hle : m + n % 128 * 2 ^ (7 * k) < 18446744073709551616 := by
        have : 0 ≤ n / 128 * 2 ^ (7 * (k + 1)) := Nat.zero_le _
        omega
      rw [uintGo_on h1 (by omega), h2, rdStep_eq m (n % 128 + 128) k (by omega) hm (by rw [hmod]; exact hle), hmod]
      have hd2 : s.data.toList.drop (a + 1) = encF f (n / 128) ++ rest := by
        rw [← List.drop_drop, hd]; simp
      rw [ih (k + 1) (a + 1) (m + n % 128 * 2 ^ (7 * k)) (n / 128) rest (by omega) hd2 ?_ (by rw [hval]; exact hn) (fun _ => by omega), hval]
      · simp [List.length_cons]; omega
      · rw [hp]
        have : n % 128 * 2 ^ (7 * k) ≤ 127 * 2 ^ (7 * k) := Nat.mul_le_mul_right _ (by omega)
        omega
theorem uintR_round (s : ByteArray) (a n : Nat) (rest : List UInt8) (hd : s.data.toList.drop a = encU n ++ rest) (hn : n < 18446744073709551616) : uintR s a = ((n : Int), 0, a + (encU n).length) := by
  have := uint_round s 9 0 a 0 n rest rfl hd (by simp) (by simpa using hn) (by omega)
  unfold uintR encU
  simpa using this
end Go.Proofs.YtjflcpkmoamijaaGreatDoor
namespace Go.Proofs.YtjflcpkmoamijaaGreatDoor
open Go.RowKit
set_option linter.unusedVariables false
set_option linter.unusedSimpArgs false
set_option linter.unnecessarySimpa false

/-! ### A journal written and read again: plain Lean -/
theorem trimB_zero (l : List UInt8) (h : ∀ b ∈ l, b = 0) : Lib.trimB l 0 = [] := by
  have h1 : l.reverse.dropWhile (· == (0 : UInt8)) = [] := by
    have h2 : ∀ r : List UInt8, (∀ b ∈ r, b = 0) → r.dropWhile (· == (0 : UInt8)) = [] := by
      intro r
      induction r with
      | nil => intro _; rfl
      | cons b r ih =>
        intro hb
        rw [List.dropWhile_cons, hb b List.mem_cons_self]
        simp only [beq_self_eq_true, if_true]
        exact ih (fun c hc => hb c (List.mem_cons_of_mem _ hc))
    exact h2 _ (fun b hb => h b (List.mem_reverse.1 hb))
  unfold Lib.trimB Lib.trimRightB Lib.trimLeftB
  rw [h1]
  rfl
theorem encU_pos (n : Nat) : 1 ≤ (encU n).length := by
  unfold encU encF
  split <;> simp
theorem extract_list (s : ByteArray) (a b : Nat) : (s.extract a b).data.toList = (s.data.toList.drop a).take (b - a) := by
  rw [ByteArray.data_extract, Array.toList_extract, List.extract_eq_take_drop]
theorem numJ_pad (s : ByteArray) (most n z : Nat) (hs : s.data.toList = encU n ++ List.replicate z 0) (hn : n < 18446744073709551616) (hm : n ≤ most) : numJ s most = some n := by
  have h1 : uintR s 0 = ((n : Int), 0, (encU n).length) := by
    have := uintR_round s 0 n (List.replicate z 0) (by rw [List.drop_zero]; exact hs) hn
    simpa using this
  have h2 : uintM s 0 0 = ((n : Int), (encU n).length, 0) := by unfold uintM; rw [h1]; simp
  have h3 : Lib.trimB (s.extract (encU n).length s.size).data.toList 0 = [] := by
    refine trimB_zero _ (fun b hb => ?_)
    rw [extract_list, hs, List.drop_left] at hb
    have := List.mem_of_mem_take hb
    exact List.eq_of_mem_replicate this
  unfold numJ
  rw [h2]
  simp only
  rw [if_pos ⟨trivial, by omega, h3⟩]
  simp
theorem blkAt_set (D : Dev) (i j : Nat) (b : Blk) (hi : i < D.now.length) : blkAt (D.set i b) j = if j = i then b else blkAt D j := by
  unfold blkAt Dev.set List.getD
  simp only [List.getElem?_set]
  by_cases h : j = i
  · subst h; simp [hi]
  · have : ¬ i = j := fun e => h e.symm
    simp [h, this]
/-- Two devices with the same blocks from a + u to a + v: one scan goes as the other, so far. -/
theorem scan_agree {D D' : Dev} {a h : Nat} : ∀ {k u : Nat} {l : List ByteArray} {u' : Nat} {l' : List ByteArray}, scanP D a h k u l = some (u', l') → h ≤ u + k → (∀ i, u ≤ i → i < u' → blkAt D' (a + i) = blkAt D (a + i)) →
    u ≤ u' ∧ ∃ k', h ≤ u' + k' ∧ scanP D' a h k u l = scanP D' a h k' u' l' ∧ (h ≤ u' ∨ byteAt (blkS D (a + u')) 0 = 0)
  | 0, u, l, u', l', e, hk, hag => by
    simp [scanP] at e
    obtain ⟨rfl, rfl⟩ := e
    exact ⟨Nat.le_refl _, 0, hk, rfl, .inl (by omega)⟩
  | k + 1, u, l, u', l', e, hk, hag => by
    have e0 := e
    unfold scanP at e
    split at e
    · simp at e
      obtain ⟨rfl, rfl⟩ := e
      rename_i hu
      exact ⟨Nat.le_refl _, k + 1, hk, rfl, .inl hu⟩
    · rename_i hu
      split at e
      · simp at e
        obtain ⟨rfl, rfl⟩ := e
        rename_i h0
        exact ⟨Nat.le_refl _, k + 1, hk, rfl, .inr h0⟩
      · rename_i h0
        split at e
        · cases e
        · rename_i n hn
          split at e
          · cases e
          · rename_i hb
            have hb1 : byteAt (blkS D (a + u)) 0 = 1 := by omega
            have hb2 : u + 1 + cnt n ≤ h := by omega
            have ih := scan_agree (D' := D') e (by omega) (fun i h1 h2 => hag i (by omega) h2)
            obtain ⟨hle, k', hk', hsc, hend⟩ := ih
            have hblk : ∀ i, u ≤ i → i < u + 1 + cnt n → blkAt D' (a + i) = blkAt D (a + i) := fun i h1 h2 => hag i h1 (by omega)
            have hs0 : blkS D' (a + u) = blkS D (a + u) := by unfold blkS; rw [hblk u (Nat.le_refl _) (by omega)]
            have hcat : catS D' (a + u + 1) (cnt n) = catS D (a + u + 1) (cnt n) := by
              unfold catS catL
              congr 2
              rw [List.flatMap_def, List.flatMap_def]
              congr 1
              apply List.map_congr_left
              intro j hj
              have hj' := List.mem_range.1 hj
              have := hblk (u + 1 + j) (by omega) (by omega)
              rw [show a + u + 1 + j = a + (u + 1 + j) by omega, this]
            refine ⟨by omega, k', hk', ?_, hend⟩
            rw [scanP_next (by omega) (by rw [hs0]; exact hb1) (by rw [hs0]; exact hn) hb2, hcat]
            exact hsc
end Go.Proofs.YtjflcpkmoamijaaGreatDoor
namespace Go.Proofs.YtjflcpkmoamijaaGreatDoor
open Go.RowKit
set_option linter.unusedVariables false
set_option linter.unusedSimpArgs false
set_option linter.unnecessarySimpa false

/-! ### What the writes of an Append do to the blocks -/
def wN (D : Dev) (ws : List (Nat × ByteArray)) : Dev := ws.foldl (fun D x => D.write x.1 x.2) D
theorem wN_len (D : Dev) (ws : List (Nat × ByteArray)) : (wN D ws).now.length = D.now.length := by
  unfold wN
  induction ws generalizing D with
  | nil => rfl
  | cons x ws ih => rw [List.foldl_cons, ih]; simp [Dev.write]
theorem wN_app (D : Dev) (a b : List (Nat × ByteArray)) : wN D (a ++ b) = wN (wN D a) b := by unfold wN; rw [List.foldl_append]
theorem blkAt_write (D : Dev) (i j : Nat) (s : ByteArray) (hi : i < D.now.length) : blkAt (D.write i s) j = if j = i then padB s else blkAt D j := by
  have := blkAt_set D i j (padB s) hi
  unfold blkAt Dev.set at this
  unfold blkAt Dev.write
  exact this
/-- A block that no write meets stays. -/
theorem blkAt_wN : ∀ (ws : List (Nat × ByteArray)) {D : Dev} {j : Nat}, (∀ x ∈ ws, x.1 < D.now.length) → (∀ x ∈ ws, x.1 ≠ j) → blkAt (wN D ws) j = blkAt D j
  | [], _, _, _, _ => rfl
  | x :: ws, D, j, h1, h2 => by
    have hl : (D.write x.1 x.2).now.length = D.now.length := by simp [Dev.write]
    have ih := blkAt_wN ws (D := D.write x.1 x.2) (j := j) (fun y hy => by rw [hl]; exact h1 y (List.mem_cons_of_mem _ hy)) (fun y hy => h2 y (List.mem_cons_of_mem _ hy))
    show blkAt (wN (D.write x.1 x.2) ws) j = _
    rw [ih, blkAt_write D x.1 j x.2 (h1 x List.mem_cons_self), if_neg (fun e => h2 x List.mem_cons_self e.symm)]
/-- Where nothing stops the device all writes go through. -/
theorem wrs_free (D : Dev) (h : D.lim = false) (ws : List (Nat × ByteArray)) : wrs D ws = (wN D ws, true) := by
  induction ws generalizing D with
  | nil => rfl
  | cons x ws ih =>
    have h1 : dwr D x.1 x.2 = (D.write x.1 x.2, true) := by unfold dwr; rw [if_neg (by simp [h])]
    have h2 : (D.write x.1 x.2).lim = false := h
    unfold wrs
    rw [h1]
    simp only [if_true]
    rw [ih _ h2]
    rfl
theorem byteAt_pad (s : ByteArray) (c : UInt8) (h : s.data.toList[0]? = some c) (D : Dev) (i : Nat) (hb : blkAt D i = padB s) : byteAt (blkS D i) 0 = c.toNat := by
  refine (byteAt_data _ 0 c ?_).2
  unfold blkS
  rw [hb]
  show (padB s)[0]? = _
  unfold padB
  rw [List.getElem?_append_left (List.getElem?_eq_some_iff.1 h).1]
  exact h
theorem byteAt_pad0 (D : Dev) (i : Nat) (hb : blkAt D i = padB ⟨#[]⟩) : byteAt (blkS D i) 0 = 0 := by
  refine (byteAt_data _ 0 0 ?_).2
  unfold blkS
  rw [hb]
  rfl
end Go.Proofs.YtjflcpkmoamijaaGreatDoor
namespace Go.Proofs.YtjflcpkmoamijaaGreatDoor
open Go.RowKit
set_option linter.unusedVariables false
set_option linter.unusedSimpArgs false
set_option linter.unnecessarySimpa false

theorem hlf_len {D D' : Dev} (h : D'.now.length = D.now.length) : hlf D' = hlf D := by unfold hlf; rw [h]
theorem fst0_len {D D' : Dev} (h : D'.now.length = D.now.length) (ep : Nat) : fst0 D' ep = fst0 D ep := by unfold fst0; rw [hlf_len h]
/-- A device whose root and whose records are the same, and whose next block stops the scan, reads the same. -/
theorem parse_same {D D' : Dev} {ep u : Nat} {l : List ByteArray} (h : parseP D = some (ep, u, l)) (hlen : D'.now.length = D.now.length) (h0 : blkAt D' 0 = blkAt D 0)
    (hb : ∀ i, i < u → blkAt D' (fst0 D ep + i) = blkAt D (fst0 D ep + i)) (hend : u < hlf D → byteAt (blkS D' (fst0 D ep + u)) 0 = 0) : parseP D' = some (ep, u, l) := by
  have hs0 : blkS D' 0 = blkS D 0 := by unfold blkS; rw [h0]
  unfold parseP at h ⊢
  rw [hs0, hlf_len hlen]
  split at h
  · cases h
  · rename_i hp
    rw [if_neg hp]
    split at h
    · cases h
    · rename_i ep' hep
      rw [Option.map_eq_some_iff] at h
      obtain ⟨⟨u', l'⟩, hsc, e⟩ := h
      simp at e
      obtain ⟨rfl, rfl, rfl⟩ := e
      obtain ⟨_, k', hk', hsc', _⟩ := scan_agree (D' := D') hsc (by omega) (fun i _ h2 => hb i h2)
      rw [fst0_len hlen, hsc']
      by_cases hu : hlf D ≤ u'
      · rw [scanP_end hu]; rfl
      · obtain ⟨k'', rfl⟩ : ∃ k'', k' = k'' + 1 := ⟨k' - 1, by omega⟩
        rw [scanP_stop (by omega) (hend (by omega))]; rfl
end Go.Proofs.YtjflcpkmoamijaaGreatDoor
namespace Go.Proofs.YtjflcpkmoamijaaGreatDoor
open Go.RowKit
set_option linter.unusedVariables false
set_option linter.unusedSimpArgs false
set_option linter.unnecessarySimpa false

/-! ### Records laid in a region are read back: plain Lean -/
theorem app_list (b : ByteArray) (l : List UInt8) : (app b l).data.toList = b.data.toList ++ l := by
  unfold app
  rw [ByteArray.data_append, Array.toList_append]
theorem bytes_ext {a b : ByteArray} (h : a.data.toList = b.data.toList) : a = b := by
  obtain ⟨⟨l⟩⟩ := a
  obtain ⟨⟨m⟩⟩ := b
  simp at h
  rw [h]
theorem blkAt_mem : ∀ (ws : List (Nat × ByteArray)) {D : Dev} {i : Nat} {s : ByteArray}, (ws.map (·.1)).Nodup → (∀ x ∈ ws, x.1 < D.now.length) → (i, s) ∈ ws → blkAt (wN D ws) i = padB s
  | [], _, _, _, _, _, h => by cases h
  | x :: ws, D, i, s, hn, hl, h => by
    rw [List.map_cons, List.nodup_cons] at hn
    have hl' : (D.write x.1 x.2).now.length = D.now.length := by simp [Dev.write]
    show blkAt (wN (D.write x.1 x.2) ws) i = _
    rcases List.mem_cons.1 h with e | h
    · subst e
      rw [blkAt_wN ws (fun y hy => by rw [hl']; exact hl y (List.mem_cons_of_mem _ hy)) (fun y hy e => hn.1 (List.mem_map.2 ⟨y, hy, e⟩)), blkAt_write _ _ _ _ (hl _ List.mem_cons_self), if_pos rfl]
    · exact blkAt_mem ws hn.2 (fun y hy => by rw [hl']; exact hl y (List.mem_cons_of_mem _ hy)) h
def Laid (D : Dev) : Nat → List ByteArray → Prop
  | _, [] => True
  | a, s :: r => blkAt D a = padB (headS s.size) ∧ (∀ i, i < cnt s.size → blkAt D (a + 1 + i) = padB (s.extract (i * 64) (min s.size ((i + 1) * 64)))) ∧ Laid D (a + (1 + cnt s.size)) r
theorem size_list (s : ByteArray) : s.data.toList.length = s.size := rfl
theorem padB_chunk (s : ByteArray) (k : Nat) (h : k < cnt s.size) :
    padB (s.extract (k * 64) (min s.size ((k + 1) * 64))) = ((s.data.toList ++ List.replicate (64 * cnt s.size - s.size) 0).drop (64 * k)).take 64 := by
  have hk : 64 * k < s.size := by unfold cnt at h; omega
  have hc : 64 * (k + 1) ≤ 64 * cnt s.size := by omega
  have hc2 : 64 * cnt s.size ≤ s.size + 63 := by unfold cnt; omega
  unfold padB
  rw [extract_list, ByteArray.size_extract]
  have hl := size_list s
  generalize s.data.toList = L at *
  generalize s.size = n at *
  generalize cnt n = c at *
  rw [List.drop_append_of_le_length (by omega), List.take_append, Nat.mul_comm k 64]
  have hA : (L.drop (64 * k)).length = n - 64 * k := by rw [List.length_drop, hl]
  rw [hA]
  congr 1
  · by_cases h1 : n ≤ (k + 1) * 64
    · rw [Nat.min_eq_left h1, List.take_of_length_le (by omega), List.take_of_length_le (by omega)]
    · rw [Nat.min_eq_right (by omega)]
      congr 1; omega
  · rw [List.take_replicate]
    congr 1; omega
theorem catL_chunks (D : Dev) (a : Nat) (s : ByteArray) (h : ∀ i, i < cnt s.size → blkAt D (a + i) = padB (s.extract (i * 64) (min s.size ((i + 1) * 64)))) :
    ∀ k, k ≤ cnt s.size → catL D a k = (s.data.toList ++ List.replicate (64 * cnt s.size - s.size) 0).take (64 * k)
  | 0, _ => by simp [catL]
  | k + 1, hk => by
    rw [catL_succ, catL_chunks D a s h k (by omega), h k (by omega), padB_chunk s k (by omega), Nat.mul_succ, List.take_add]
theorem cat_back (D : Dev) (a : Nat) (s : ByteArray) (h : ∀ i, i < cnt s.size → blkAt D (a + i) = padB (s.extract (i * 64) (min s.size ((i + 1) * 64)))) : (catS D a (cnt s.size)).extract 0 s.size = s := by
  have hc : s.size ≤ 64 * cnt s.size := by unfold cnt; omega
  apply bytes_ext
  rw [extract_list]
  show (List.drop 0 (catL D a (cnt s.size))).take _ = _
  rw [catL_chunks D a s h _ (Nat.le_refl _), List.drop_zero, Nat.sub_zero, List.take_take, Nat.min_eq_left hc, List.take_append_of_le_length (by rw [size_list]; exact Nat.le_refl _), List.take_of_length_le (by rw [size_list]; exact Nat.le_refl _)]
theorem encU_lt (n : Nat) : (encU n).length ≤ 10 := encU_len n
theorem num_back (D : Dev) (i n p most : Nat) (pre : List UInt8) (s : ByteArray) (hs : s.data.toList = pre ++ encU n) (h : blkAt D i = padB s) (hp : pre.length = p) (h54 : p ≤ 54) (hn : n < 18446744073709551616) (hm : n ≤ most) : numJ ((blkS D i).extract p 64) most = some n := by
  have hl := encU_lt n
  have hsz : s.size = p + (encU n).length := by rw [← size_list, hs, List.length_append, hp]
  refine numJ_pad _ most n (64 - s.size) ?_ hn hm
  rw [extract_list]
  have e : (blkS D i).data.toList = pre ++ (encU n ++ List.replicate (64 - s.size) 0) := by
    show blkAt D i = _
    rw [h]; unfold padB; rw [hs, List.append_assoc]
  rw [e, ← hp, List.drop_left, List.take_of_length_le]
  rw [List.length_append, List.length_replicate]; omega
theorem head_back (D : Dev) (i n : Nat) (h : blkAt D i = padB (headS n)) (hn : n ≤ 4194304) : byteAt (blkS D i) 0 = 1 ∧ numJ ((blkS D i).extract 1 64) 4194304 = some n := by
  have hd : (headS n).data.toList = [1] ++ encU n := app_list _ _
  refine ⟨byteAt_pad (headS n) 1 (by rw [hd]; rfl) D i h, ?_⟩
  exact num_back D i n 1 4194304 [1] (headS n) hd h rfl (by omega) (by omega) hn
theorem root_back (D : Dev) (i ep : Nat) (h : blkAt D i = padB (rootS ep)) (hn : ep ≤ 2147483647) : Lib.hasPrefix (blkS D i).data.toList [77, 65, 80, 74] = true ∧ numJ ((blkS D i).extract 4 64) 2147483647 = some ep := by
  have hd : (rootS ep).data.toList = [77, 65, 80, 74] ++ encU ep := app_list _ _
  refine ⟨?_, num_back D i ep 4 2147483647 [77, 65, 80, 74] (rootS ep) hd h rfl (by omega) (by omega) hn⟩
  have e : (blkS D i).data.toList = padB (rootS ep) := h
  rw [e]; unfold padB; rw [hd]; rfl
theorem sumC_cons (s : ByteArray) (r : List ByteArray) : sumC (s :: r) = 1 + cnt s.size + sumC r := by simp [sumC]
theorem scan_laid (D : Dev) (a h : Nat) (hh : h ≤ 32767) : ∀ (l : List ByteArray) (u k : Nat) (acc : List ByteArray), Laid D (a + u) l → u + sumC l ≤ h → h ≤ u + k → (u + sumC l < h → byteAt (blkS D (a + (u + sumC l))) 0 = 0) → scanP D a h k u acc = some (u + sumC l, acc ++ l)
  | [], u, k, acc, _, h1, h2, h3 => by
    have e : sumC ([] : List ByteArray) = 0 := rfl
    simp only [e, Nat.add_zero, List.append_nil] at h1 h3 ⊢
    by_cases hu : h ≤ u
    · rw [scanP_end hu]
    · obtain ⟨k', rfl⟩ : ∃ k', k = k' + 1 := ⟨k - 1, by omega⟩
      rw [scanP_stop (by omega) (h3 (by omega))]
  | s :: r, u, k, acc, hl, h1, h2, h3 => by
    rw [sumC_cons] at *
    obtain ⟨l1, l2, l3⟩ := hl
    obtain ⟨k', rfl⟩ : ∃ k', k = k' + 1 := ⟨k - 1, by omega⟩
    have hsz : s.size ≤ 4194304 := by unfold cnt at h1; omega
    obtain ⟨b1, b2⟩ := head_back D (a + u) s.size l1 hsz
    rw [scanP_next (by omega) b1 b2 (by omega), cat_back D (a + u + 1) s l2]
    have e1 : a + u + (1 + cnt s.size) = a + (u + 1 + cnt s.size) := by omega
    rw [e1] at l3
    rw [scan_laid D a h hh r (u + 1 + cnt s.size) k' (acc ++ [s]) l3 (by omega) (by omega) (fun hx => by rw [show u + 1 + cnt s.size + sumC r = u + (1 + cnt s.size + sumC r) by omega]; exact h3 (by omega))]
    rw [show u + 1 + cnt s.size + sumC r = u + (1 + cnt s.size + sumC r) by omega, List.append_assoc]
    rfl
theorem parse_iff {D : Dev} {ep u : Nat} {l : List ByteArray} : parseP D = some (ep, u, l) ↔ Lib.hasPrefix (blkS D 0).data.toList [77, 65, 80, 74] = true ∧ numJ ((blkS D 0).extract 4 64) 2147483647 = some ep ∧ scanP D (fst0 D ep) (hlf D) (hlf D) 0 [] = some (u, l) := by
  constructor
  · intro h
    unfold parseP at h
    split at h
    · cases h
    · rename_i hp
      split at h
      · cases h
      · rename_i ep' hep
        rw [Option.map_eq_some_iff] at h
        obtain ⟨⟨u', l'⟩, hsc, e⟩ := h
        simp at e
        obtain ⟨rfl, rfl, rfl⟩ := e
        exact ⟨by simpa using hp, hep, hsc⟩
  · rintro ⟨h1, h2, h3⟩
    unfold parseP
    rw [if_neg (by simp [h1]), h2]
    simp only [h3, Option.map_some]
theorem bodyW_mem {a : Nat} {s : ByteArray} {x : Nat × ByteArray} : x ∈ bodyW a s ↔ ∃ i, i < cnt s.size ∧ (a + 1 + i, s.extract (i * 64) (min s.size ((i + 1) * 64))) = x := by
  unfold bodyW
  simp only [List.mem_map, List.mem_range]
theorem bodyW_nodup (a : Nat) (s : ByteArray) : ((bodyW a s).map (·.1)).Nodup := by
  unfold bodyW List.Nodup
  rw [List.map_map, List.pairwise_map]
  exact List.pairwise_lt_range.imp (fun h e => by simp at e; omega)
/-- The writes of one record. -/
def recW (a : Nat) (s : ByteArray) (m : List (Nat × ByteArray)) : List (Nat × ByteArray) := bodyW a s ++ (m ++ [(a, headS s.size)])
end Go.Proofs.YtjflcpkmoamijaaGreatDoor
namespace Go.Proofs.YtjflcpkmoamijaaGreatDoor
open Go.RowKit
set_option linter.unusedVariables false
set_option linter.unusedSimpArgs false
set_option linter.unnecessarySimpa false

theorem hlf_wN (D : Dev) (ws : List (Nat × ByteArray)) : hlf (wN D ws) = hlf D := hlf_len (wN_len D ws)
theorem fst0_wN (D : Dev) (ws : List (Nat × ByteArray)) (ep : Nat) : fst0 (wN D ws) ep = fst0 D ep := fst0_len (wN_len D ws) ep
theorem fst0_pos (D : Dev) (ep : Nat) : 1 ≤ fst0 D ep := by unfold fst0; split <;> omega
/-- The writes of an Append before the last one. -/
def appX (D : Dev) (ep u : Nat) (s : ByteArray) : List (Nat × ByteArray) :=
  bodyW (fst0 D ep + u) s ++ (if u + 1 + cnt s.size < hlf D then [(fst0 D ep + u + 1 + cnt s.size, (⟨#[]⟩ : ByteArray))] else [])
theorem appW_eq (D : Dev) (ep u : Nat) (s : ByteArray) : appW D ep u s = appX D ep u s ++ [(fst0 D ep + u, headS s.size)] := by
  unfold appW appX; rw [List.append_assoc]
theorem appX_range {D : Dev} {ep u : Nat} {s : ByteArray} (hfit : u + 1 + cnt s.size ≤ hlf D) {x : Nat × ByteArray} (hx : x ∈ appX D ep u s) : fst0 D ep + u < x.1 ∧ x.1 < fst0 D ep + hlf D := by
  rcases List.mem_append.1 hx with h | h
  · obtain ⟨i, hi, rfl⟩ := bodyW_mem.1 h
    dsimp only; omega
  · split at h
    · rename_i hlt
      have := List.mem_singleton.1 h
      subst this
      dsimp only; omega
    · cases h
theorem fst0_end (D : Dev) (ep : Nat) (h2 : 2 * hlf D + 1 ≤ D.now.length) : fst0 D ep + hlf D ≤ D.now.length := by
  have := fst0_le (D := D) ep; omega
theorem scan_end0 {D : Dev} {a h : Nat} {u' : Nat} {l' : List ByteArray} (e : scanP D a h h 0 [] = some (u', l')) : h ≤ u' ∨ byteAt (blkS D (a + u')) 0 = 0 := by
  obtain ⟨_, _, _, _, h4⟩ := scan_agree (D' := D) e (by omega) (fun _ _ _ => rfl)
  exact h4
/-- Behind some but not all writes of an Append the journal is the old one. -/
theorem append_part {D : Dev} {ep u : Nat} {l : List ByteArray} (s : ByteArray) (hp : parseP D = some (ep, u, l)) (hfit : u + 1 + cnt s.size ≤ hlf D) (h2 : 2 * hlf D + 1 ≤ D.now.length)
    {k : Nat} (hk : k < (appW D ep u s).length) : parseP (wN D ((appW D ep u s).take k)) = some (ep, u, l) := by
  rw [appW_eq, List.length_append, List.length_singleton] at hk
  rw [appW_eq, List.take_append_of_le_length (by omega)]
  have hr : ∀ x ∈ (appX D ep u s).take k, fst0 D ep + u < x.1 ∧ x.1 < D.now.length := by
    intro x hx
    have h1 := appX_range hfit (List.mem_of_mem_take hx)
    have := fst0_end D ep h2
    omega
  have h1 := fst0_pos D ep
  have hin : ∀ x ∈ (appX D ep u s).take k, x.1 < D.now.length := fun x hx => (hr x hx).2
  refine parse_same hp (wN_len _ _) (blkAt_wN _ hin (fun x hx => by have := hr x hx; omega)) (fun i hi => blkAt_wN _ hin (fun x hx => by have := hr x hx; omega)) (fun hu => ?_)
  have he := scan_end0 (parse_iff.1 hp).2.2
  have : blkS (wN D ((appX D ep u s).take k)) (fst0 D ep + u) = blkS D (fst0 D ep + u) := by
    unfold blkS; rw [blkAt_wN _ hin (fun x hx => by have := hr x hx; omega)]
  rw [this]
  rcases he with he | he
  · omega
  · exact he
theorem appW_nodup (D : Dev) (ep u : Nat) (s : ByteArray) : ((appW D ep u s).map (·.1)).Nodup := by
  rw [appW_eq]
  unfold appX
  rw [List.map_append, List.map_append, List.nodup_append, List.nodup_append]
  refine ⟨⟨bodyW_nodup _ _, ?_, ?_⟩, by simp, ?_⟩
  · split <;> simp
  · intro a ha b hb
    obtain ⟨x, hx, rfl⟩ := List.mem_map.1 ha
    obtain ⟨i, hi, rfl⟩ := bodyW_mem.1 hx
    split at hb
    · simp at hb; dsimp only; omega
    · simp at hb
  · intro a ha b hb
    simp at hb
    rw [List.mem_append] at ha
    rcases ha with ha | ha
    · obtain ⟨x, hx, rfl⟩ := List.mem_map.1 ha
      obtain ⟨i, hi, rfl⟩ := bodyW_mem.1 hx
      dsimp only; omega
    · split at ha
      · simp at ha; omega
      · simp at ha
theorem laid_one {D : Dev} {a : Nat} {s : ByteArray} (h1 : blkAt D a = padB (headS s.size)) (h2 : ∀ i, i < cnt s.size → blkAt D (a + 1 + i) = padB (s.extract (i * 64) (min s.size ((i + 1) * 64)))) : Laid D a [s] := ⟨h1, h2, trivial⟩
/-- Behind all writes of an Append the journal has one record more. -/
theorem append_all {D : Dev} {ep u : Nat} {l : List ByteArray} (s : ByteArray) (hp : parseP D = some (ep, u, l)) (hfit : u + 1 + cnt s.size ≤ hlf D) (h2 : 2 * hlf D + 1 ≤ D.now.length) (h3 : hlf D ≤ 32767) :
    parseP (wN D (appW D ep u s)) = some (ep, u + 1 + cnt s.size, l ++ [s]) := by
  obtain ⟨p1, p2, p3⟩ := parse_iff.1 hp
  have h1 := fst0_pos D ep
  have hend := fst0_end D ep h2
  have hr : ∀ x ∈ appW D ep u s, fst0 D ep + u ≤ x.1 ∧ x.1 < D.now.length := by
    intro x hx
    rw [appW_eq] at hx
    rcases List.mem_append.1 hx with hx | hx
    · have := appX_range hfit hx; omega
    · have := List.mem_singleton.1 hx
      subst this
      dsimp only; omega
  have hin : ∀ x ∈ appW D ep u s, x.1 < D.now.length := fun x hx => (hr x hx).2
  have hs0 : blkS (wN D (appW D ep u s)) 0 = blkS D 0 := by
    unfold blkS; rw [blkAt_wN _ hin (fun x hx => by have := hr x hx; omega)]
  obtain ⟨_, k', hk', hsc, _⟩ := scan_agree (D' := wN D (appW D ep u s)) p3 (by omega) (fun i _ hi => blkAt_wN _ hin (fun x hx => by have := hr x hx; omega))
  refine parse_iff.2 ⟨by rw [hs0]; exact p1, by rw [hs0]; exact p2, ?_⟩
  rw [fst0_wN, hlf_wN, hsc]
  have e : u + sumC [s] = u + 1 + cnt s.size := by simp [sumC]; omega
  have hL : Laid (wN D (appW D ep u s)) (fst0 D ep + u) [s] := by
    refine laid_one (blkAt_mem _ (appW_nodup D ep u s) hin ?_) (fun i hi => blkAt_mem _ (appW_nodup D ep u s) hin ?_)
    · rw [appW_eq]; simp
    · rw [appW_eq]
      exact List.mem_append_left _ (List.mem_append_left _ (bodyW_mem.2 ⟨i, hi, rfl⟩))
  rw [scan_laid _ _ _ h3 [s] u k' l hL (by omega) hk' ?_, e]
  intro hu
  rw [e] at hu ⊢
  refine byteAt_pad0 _ _ (blkAt_mem _ (appW_nodup D ep u s) hin ?_)
  rw [appW_eq]
  unfold appX
  rw [if_pos hu]
  refine List.mem_append_left _ (List.mem_append_right _ ?_)
  rw [← Nat.add_assoc, ← Nat.add_assoc]
  exact List.mem_singleton.2 rfl

/-! ### Reset -/
theorem nextE_le {ep : Nat} (h : ep ≤ 2147483647) : nextE ep ≤ 2147483647 := by unfold nextE; split <;> omega
theorem nextE_half {D : Dev} {ep : Nat} (h : ep ≤ 2147483647) : (fst0 D ep = 1 ∧ fst0 D (nextE ep) = 1 + hlf D) ∨ (fst0 D ep = 1 + hlf D ∧ fst0 D (nextE ep) = 1) := by
  unfold fst0 nextE
  by_cases h1 : 2147483647 < ep + 1
  · have : ep = 2147483647 := by omega
    subst this
    right; exact ⟨rfl, rfl⟩
  · rw [if_neg h1]
    rcases (by omega : ep % 2 = 0 ∨ ep % 2 = 1) with h2 | h2
    · left; rw [if_pos h2, if_neg (by omega)]; exact ⟨rfl, rfl⟩
    · right; rw [if_neg (by omega), if_pos (by omega)]; exact ⟨rfl, rfl⟩
theorem resW_range : ∀ (l : List ByteArray) (a : Nat) {x : Nat × ByteArray}, x ∈ resW a l → a ≤ x.1 ∧ x.1 < a + sumC l
  | [], a, x, h => by cases h
  | s :: r, a, x, h => by
    rw [sumC_cons]
    unfold resW at h
    rcases List.mem_append.1 h with h | h
    · obtain ⟨i, hi, rfl⟩ := bodyW_mem.1 h
      dsimp only; omega
    · rcases List.mem_append.1 h with h | h
      · have := List.mem_singleton.1 h
        subst this
        dsimp only; omega
      · have := resW_range r _ h; omega
theorem resW_nodup : ∀ (l : List ByteArray) (a : Nat), ((resW a l).map (·.1)).Nodup
  | [], a => by simp [resW]
  | s :: r, a => by
    unfold resW
    rw [List.map_append, List.map_append, List.nodup_append, List.nodup_append]
    refine ⟨bodyW_nodup _ _, ⟨by simp, resW_nodup r _, ?_⟩, ?_⟩
    · intro x hx y hy
      simp at hx
      obtain ⟨z, hz, rfl⟩ := List.mem_map.1 hy
      have := resW_range r _ hz
      omega
    · intro x hx y hy
      obtain ⟨z, hz, rfl⟩ := List.mem_map.1 hx
      obtain ⟨i, hi, rfl⟩ := bodyW_mem.1 hz
      rcases List.mem_append.1 hy with hy | hy
      · simp at hy; dsimp only; omega
      · obtain ⟨z, hz, rfl⟩ := List.mem_map.1 hy
        have := resW_range r _ hz
        dsimp only; omega
theorem laid_of : ∀ (l : List ByteArray) (a : Nat) {D : Dev}, (∀ x ∈ resW a l, blkAt D x.1 = padB x.2) → Laid D a l
  | [], _, _, _ => trivial
  | s :: r, a, D, h => by
    refine ⟨h (a, headS s.size) ?_, fun i hi => h (a + 1 + i, _) ?_, laid_of r _ (fun x hx => h x ?_)⟩
    · unfold resW; exact List.mem_append_right _ (List.mem_append_left _ (List.mem_singleton.2 rfl))
    · unfold resW; exact List.mem_append_left _ (bodyW_mem.2 ⟨i, hi, rfl⟩)
    · unfold resW; exact List.mem_append_right _ (List.mem_append_right _ hx)
/-- The writes of a Reset before the last one. -/
def resetX (D : Dev) (ep : Nat) (l : List ByteArray) : List (Nat × ByteArray) :=
  resW (fst0 D (nextE ep)) l ++ (if sumC l < hlf D then [(fst0 D (nextE ep) + sumC l, (⟨#[]⟩ : ByteArray))] else [])
theorem resetW_eq (D : Dev) (ep : Nat) (l : List ByteArray) : resetW D ep l = resetX D ep l ++ [(0, rootS (nextE ep))] := by
  unfold resetW resetX; rw [List.append_assoc]
theorem resetX_range {D : Dev} {ep : Nat} {l : List ByteArray} (hfit : sumC l ≤ hlf D) {x : Nat × ByteArray} (hx : x ∈ resetX D ep l) : fst0 D (nextE ep) ≤ x.1 ∧ x.1 < fst0 D (nextE ep) + hlf D := by
  rcases List.mem_append.1 hx with h | h
  · have := resW_range l _ h; omega
  · split at h
    · rename_i hlt
      have := List.mem_singleton.1 h
      subst this
      dsimp only; omega
    · cases h
theorem reset_part {D : Dev} {ep u : Nat} {l m : List ByteArray} (hp : parseP D = some (ep, u, l)) (hfit : sumC m ≤ hlf D) (h2 : 2 * hlf D + 1 ≤ D.now.length) (hep : ep ≤ 2147483647) (hu : u ≤ hlf D)
    {k : Nat} (hk : k < (resetW D ep m).length) : parseP (wN D ((resetW D ep m).take k)) = some (ep, u, l) := by
  rw [resetW_eq, List.length_append, List.length_singleton] at hk
  rw [resetW_eq, List.take_append_of_le_length (by omega)]
  have hr : ∀ x ∈ (resetX D ep m).take k, fst0 D (nextE ep) ≤ x.1 ∧ x.1 < fst0 D (nextE ep) + hlf D := fun x hx => resetX_range hfit (List.mem_of_mem_take hx)
  have he := fst0_end D (nextE ep) h2
  have h1 := fst0_pos D (nextE ep)
  have hh := nextE_half (D := D) hep
  have hin : ∀ x ∈ (resetX D ep m).take k, x.1 < D.now.length := fun x hx => by have := hr x hx; omega
  have hkeep : ∀ i, i < hlf D → blkAt (wN D ((resetX D ep m).take k)) (fst0 D ep + i) = blkAt D (fst0 D ep + i) := fun i hi => blkAt_wN _ hin (fun x hx => by have := hr x hx; omega)
  refine parse_same hp (wN_len _ _) (blkAt_wN _ hin (fun x hx => by have := hr x hx; omega)) (fun i hi => hkeep i (by omega)) (fun hu => ?_)
  have he := scan_end0 (parse_iff.1 hp).2.2
  have : blkS (wN D ((resetX D ep m).take k)) (fst0 D ep + u) = blkS D (fst0 D ep + u) := by
    unfold blkS; rw [hkeep u hu]
  rw [this]
  rcases he with he | he
  · omega
  · exact he
theorem resetW_nodup (D : Dev) (ep : Nat) (l : List ByteArray) (hfit : sumC l ≤ hlf D) : ((resetW D ep l).map (·.1)).Nodup := by
  have h1 := fst0_pos D (nextE ep)
  rw [resetW_eq, List.map_append, List.nodup_append]
  refine ⟨?_, by simp, ?_⟩
  · unfold resetX
    rw [List.map_append, List.nodup_append]
    refine ⟨resW_nodup _ _, by split <;> simp, ?_⟩
    intro x hx y hy
    obtain ⟨z, hz, rfl⟩ := List.mem_map.1 hx
    have := resW_range l _ hz
    split at hy
    · simp at hy; omega
    · simp at hy
  · intro x hx y hy
    obtain ⟨z, hz, rfl⟩ := List.mem_map.1 hx
    have := resetX_range hfit hz
    simp at hy
    omega
theorem reset_all {D : Dev} {ep u : Nat} {l m : List ByteArray} (hfit : sumC m ≤ hlf D) (h2 : 2 * hlf D + 1 ≤ D.now.length) (h3 : hlf D ≤ 32767) (hep : ep ≤ 2147483647) :
    parseP (wN D (resetW D ep m)) = some (nextE ep, sumC m, m) := by
  have he := fst0_end D (nextE ep) h2
  have h1 := fst0_pos D (nextE ep)
  have hnd := resetW_nodup D ep m hfit
  have hin : ∀ x ∈ resetW D ep m, x.1 < D.now.length := by
    intro x hx
    rw [resetW_eq] at hx
    rcases List.mem_append.1 hx with hx | hx
    · have := resetX_range hfit hx; omega
    · have := List.mem_singleton.1 hx
      subst this
      dsimp only; omega
  have hroot : blkAt (wN D (resetW D ep m)) 0 = padB (rootS (nextE ep)) := blkAt_mem _ hnd hin (by rw [resetW_eq]; simp)
  obtain ⟨p1, p2⟩ := root_back _ 0 (nextE ep) hroot (nextE_le hep)
  refine parse_iff.2 ⟨p1, p2, ?_⟩
  rw [fst0_wN, hlf_wN]
  have hL : Laid (wN D (resetW D ep m)) (fst0 D (nextE ep) + 0) m := by
    refine laid_of m _ (fun x hx => blkAt_mem _ hnd hin ?_)
    rw [resetW_eq]
    exact List.mem_append_left _ (List.mem_append_left _ hx)
  rw [scan_laid _ _ _ h3 m 0 (hlf D) [] hL (by omega) (by omega) ?_, Nat.zero_add, List.nil_append]
  intro hu
  rw [Nat.zero_add] at hu ⊢
  refine byteAt_pad0 _ _ (blkAt_mem _ hnd hin ?_)
  rw [resetW_eq]
  unfold resetX
  rw [if_pos hu]
  exact List.mem_append_left _ (List.mem_append_right _ (List.mem_singleton.2 rfl))
end Go.Proofs.YtjflcpkmoamijaaGreatDoor
namespace Go.Proofs.YtjflcpkmoamijaaGreatDoor
open Go.RowKit
set_option linter.unusedVariables false
set_option linter.unusedSimpArgs false
set_option linter.unnecessarySimpa false

/-! ### A record written and read again: plain Lean -/
theorem and_one (m : Nat) (h : m < 18446744073709551616) : bits .and .u64 (m : Int) 1 = ((m % 2 : Nat) : Int) := by
  show IntKind.u64.wrap (((BitVec.ofInt 64 (m : Int) &&& BitVec.ofInt 64 1).toNat : Nat) : Int) = _
  rw [wrap_u64', BitVec.toNat_and, BitVec.toNat_ofInt, BitVec.toNat_ofInt]
  have e1 : ((m : Int) % (2 ^ 64 : Nat)).toNat = m := by
    have : (2 ^ 64 : Nat) = 18446744073709551616 := by decide
    rw [this]; omega
  have e2 : ((1 : Int) % (2 ^ 64 : Nat)).toNat = 1 := by decide
  rw [e1, e2, Nat.and_one_is_mod]
  omega
theorem xor_z (x : Int) (h : InInt x) : bits .xor .i64 x 0 = x := by
  show IntKind.i64.wrap (((BitVec.ofInt 64 x ^^^ BitVec.ofInt 64 0).toNat : Nat) : Int) = x
  have h0 : BitVec.ofInt 64 0 = 0#64 := by decide
  rw [h0, BitVec.xor_zero, BitVec.toNat_ofInt, IntKind.wrap_i64]
  unfold InInt at h
  omega
theorem xor_m (x : Int) (h : InInt x) : bits .xor .i64 x (-1) = -x - 1 := by
  show IntKind.i64.wrap (((BitVec.ofInt 64 x ^^^ BitVec.ofInt 64 (-1)).toNat : Nat) : Int) = _
  have h0 : BitVec.ofInt 64 (-1) = BitVec.allOnes 64 := by decide
  rw [h0, BitVec.xor_allOnes, BitVec.toNat_not, BitVec.toNat_ofInt, IntKind.wrap_i64]
  unfold InInt at h
  omega
theorem zig_zz (n : Int) (h : InInt n) : zig ((zz n : Nat) : Int) = n := by
  have hl := zz_lt h.1 h.2
  have h' := h
  unfold InInt at h'
  unfold zig
  rw [and_one _ hl]
  by_cases hn : n < 0
  · have e : zz n = (-2 * n - 1).toNat := if_pos hn
    rw [e]
    have e1 : ((-2 * n - 1).toNat % 2 : Nat) = 1 := by omega
    rw [e1]
    have e2 : wrap64 (-wrap64 ((1 : Nat) : Int)) = -1 := by unfold wrap64; omega
    have e3 : wrap64 ((((-2 * n - 1).toNat : Nat) : Int) / 2) = -n - 1 := by unfold wrap64; omega
    rw [e2, e3, xor_m _ (by unfold InInt; omega)]
    omega
  · have e : zz n = (2 * n).toNat := if_neg hn
    rw [e]
    have e1 : ((2 * n).toNat % 2 : Nat) = 0 := by omega
    rw [e1]
    have e2 : wrap64 (-wrap64 ((0 : Nat) : Int)) = 0 := by unfold wrap64; omega
    have e3 : wrap64 ((((2 * n).toNat : Nat) : Int) / 2) = n := by unfold wrap64; omega
    rw [e2, e3, xor_z _ h]
theorem drop_more {L : List UInt8} {a : Nat} {x r : List UInt8} (h : L.drop a = x ++ r) : L.drop (a + x.length) = r := by
  rw [← List.drop_drop, h, List.drop_left]
theorem drop_size {s : ByteArray} {a : Nat} {x : List UInt8} (h : s.data.toList.drop a = x) (hx : x ≠ []) : a + x.length = s.size := by
  have := congrArg List.length h
  rw [List.length_drop, size_list] at this
  have h1 : 1 ≤ x.length := by cases x with | nil => exact absurd rfl hx | cons _ _ => simp
  omega
theorem uintM_back {s : ByteArray} {a n : Nat} {r : List UInt8} (h : s.data.toList.drop a = encU n ++ r) (hn : n < 18446744073709551616) : uintM s a 0 = ((n : Int), a + (encU n).length, 0) := by
  have := uintR_round s a n r h hn
  unfold uintM
  rw [if_pos rfl, this]
  rfl
theorem countR_back {s : ByteArray} {a n : Nat} {r : List UInt8} {most : Int} (h : s.data.toList.drop a = encU n ++ r) (hn : n < 9223372036854775808) (hm : (n : Int) ≤ most) : countR s a most = ((n : Int), 0, a + (encU n).length) := by
  have := uintR_round s a n r h (by omega)
  unfold countR
  rw [this]
  have e : wrap64 (n : Int) = n := by unfold wrap64; omega
  simp only [e]
  rw [if_neg (by omega)]
theorem countM_back {s : ByteArray} {a n : Nat} {r : List UInt8} {most : Int} (h : s.data.toList.drop a = encU n ++ r) (hn : n < 9223372036854775808) (hm : (n : Int) ≤ most) : countM s a 0 most = ((n : Int), a + (encU n).length, 0) := by
  unfold countM
  rw [if_pos rfl, countR_back h hn hm]
  rfl
theorem textM_back {s t : ByteArray} {a : Nat} {r : List UInt8} (h : s.data.toList.drop a = encU t.size ++ (t.data.toList ++ r)) (ht : t.size < 9223372036854775808) : textM s a 0 s.size = (t, a + (encU t.size).length + t.size, 0) := by
  have hl := encU_pos t.size
  have hsz := drop_size h (by intro e; have := congrArg List.length e; rw [List.length_append] at this; simp only [List.length_nil] at this; omega)
  rw [List.length_append, List.length_append, size_list] at hsz
  have hc := countR_back (most := s.size) h ht (by omega)
  have hR : textR s a s.size = (t, 0, a + (encU t.size).length + t.size) := by
    unfold textR
    rw [hc]
    simp only [if_true]
    rw [if_neg (by omega)]
    simp only [Int.toNat_natCast]
    congr 1
    apply bytes_ext
    rw [extract_list, drop_more h]
    rw [List.take_append_of_le_length (by rw [size_list]; omega), List.take_of_length_le (by rw [size_list]; omega)]
  unfold textM
  rw [if_pos rfl, hR]
  rfl
/-- The bytes of one tile of a record. -/
def encBl (b : Bl) : List UInt8 := encU (zz b.t.z) ++ (encU (zz b.t.x) ++ (encU (zz b.t.y) ++ (encU b.s.size ++ b.s.data.toList)))
theorem encOne_list (s : ByteArray) (b : Bl) : (encOne s b).data.toList = s.data.toList ++ encBl b := by
  unfold encOne putT putI encBl
  rw [ByteArray.data_append, Array.toList_append, app_list, app_list, app_list, app_list]
  simp only [List.append_assoc]
theorem fold_list : ∀ (l : List Bl) (s : ByteArray), (l.foldl encOne s).data.toList = s.data.toList ++ l.flatMap encBl
  | [], s => by simp
  | b :: l, s => by
    rw [List.foldl_cons, fold_list l, encOne_list, List.flatMap_cons, List.append_assoc]
theorem encP_list (v : Int) (l : List Bl) : (encP v l).data.toList = encU (zz v) ++ (encU l.length ++ l.flatMap encBl) := by
  unfold encP putI
  rw [fold_list, app_list, app_list]
  simp
theorem dec_step {s : ByteArray} {a : Nat} {b : Bl} {r : List UInt8} (h : s.data.toList.drop a = encBl b ++ r) (hb : b.fits) : rdTile s a 0 = b.t ∧ rdText s a 0 = (b.s, a + (encBl b).length, 0) := by
  obtain ⟨hz, hx, hy, hs⟩ := hb
  unfold encBl at h
  simp only [List.append_assoc] at h
  have u1 := uintM_back h (zz_lt hz.1 hz.2)
  have h2 := drop_more h
  have u2 := uintM_back h2 (zz_lt hx.1 hx.2)
  have h3 := drop_more h2
  have u3 := uintM_back h3 (zz_lt hy.1 hy.2)
  have h4 := drop_more h3
  have u4 := textM_back h4 (by omega)
  constructor
  · unfold rdTile
    rw [u1]; simp only [u2, u3]
    rw [zig_zz _ hz, zig_zz _ hx, zig_zz _ hy]
  · unfold rdText rd3
    rw [u1]; simp only [u2, u3, u4]
    unfold encBl
    simp only [List.length_append, size_list]
    congr 2
    omega
theorem encBl_pos (b : Bl) : 1 ≤ (encBl b).length := by
  have := encU_pos (zz b.t.z)
  unfold encBl; rw [List.length_append]; omega
theorem flat_ge : ∀ (l : List Bl), l.length ≤ (l.flatMap encBl).length
  | [] => by simp
  | b :: l => by
    have := flat_ge l
    have := encBl_pos b
    rw [List.flatMap_cons, List.length_append, List.length_cons]; omega
theorem decLoop_back (s : ByteArray) : ∀ (l : List Bl) (a : Nat) (acc : List Bl), s.data.toList.drop a = l.flatMap encBl → (∀ b ∈ l, b.fits) → decLoop s l.length a 0 acc = ((a + (l.flatMap encBl).length, 0), acc ++ l)
  | [], a, acc, _, _ => by simp [decLoop]
  | b :: l, a, acc, h, hf => by
    rw [List.flatMap_cons] at h
    obtain ⟨h1, h2⟩ := dec_step h (hf b List.mem_cons_self)
    rw [List.length_cons]
    unfold decLoop
    rw [h1, h2]
    simp only [ne_eq, not_true_eq_false, if_false]
    rw [decLoop_back s l (a + (encBl b).length) (acc ++ [b]) (drop_more h) (fun c hc => hf c (List.mem_cons_of_mem _ hc))]
    rw [List.flatMap_cons, List.length_append, List.append_assoc, Nat.add_assoc]
    rfl
theorem dec_enc (v : Int) (l : List Bl) (hv : InInt v) (hl : l.length < 9223372036854775808) (hf : ∀ b ∈ l, b.fits) : decP (encP v l) = (v, l, true) := by
  have hL := encP_list v l
  have h0 : (encP v l).data.toList.drop 0 = encU (zz v) ++ (encU l.length ++ l.flatMap encBl) := by rw [List.drop_zero, hL]
  have hsz : (encP v l).size = (encU (zz v)).length + ((encU l.length).length + (l.flatMap encBl).length) := by rw [← size_list, hL]; simp
  have hge := flat_ge l
  generalize encP v l = s at *
  have u1 := uintM_back h0 (zz_lt hv.1 hv.2)
  have h1 := drop_more h0
  have u2 := countM_back (most := s.size) h1 hl (by omega)
  have h2 := drop_more h1
  unfold decP
  rw [u1]
  simp only [u2, Int.toNat_natCast]
  rw [decLoop_back s l _ [] h2 hf, zig_zz v hv]
  simp only [List.nil_append]
  have hd : doneM s (0 + (encU (zz v)).length + (encU l.length).length + (l.flatMap encBl).length) 0 = 0 := by
    unfold doneM
    rw [if_pos rfl, if_neg (by omega)]
  rw [hd]
  rfl
end Go.Proofs.YtjflcpkmoamijaaGreatDoor
namespace Go.Proofs.YtjflcpkmoamijaaGreatDoor
open Go.RowKit
set_option linter.unusedVariables false
set_option linter.unusedSimpArgs false
set_option linter.unnecessarySimpa false

/-! ### What the operations of a cache leave on the device, write by write: plain Lean -/
def lg (ws : List (Nat × ByteArray)) : List (Nat × Blk) := ws.map fun x => (x.1, padB x.2)
theorem wN_now (ws : List (Nat × ByteArray)) : ∀ D : Dev, (wN D ws).now = redo D.now (lg ws) := by
  induction ws with
  | nil => intro D; rfl
  | cons x ws ih => intro D; exact ih (D.write x.1 x.2)
theorem wN_log (ws : List (Nat × ByteArray)) : ∀ D : Dev, (wN D ws).log = D.log ++ lg ws := by
  induction ws with
  | nil => intro D; simp [wN, lg]
  | cons x ws ih =>
    intro D
    have := ih (D.write x.1 x.2)
    show (wN (D.write x.1 x.2) ws).log = _
    rw [this]
    simp [Dev.write, lg]
theorem lg_len (ws : List (Nat × ByteArray)) : (lg ws).length = ws.length := by simp [lg]
theorem lg_take (ws : List (Nat × ByteArray)) (k : Nat) : (lg ws).take k = lg (ws.take k) := by simp [lg, List.map_take]
theorem redo_app (l : List Blk) (a b : List (Nat × Blk)) : redo l (a ++ b) = redo (redo l a) b := by unfold redo; rw [List.foldl_append]
theorem wrs_split : ∀ (ws : List (Nat × ByteArray)) (D : Dev), ∃ k, k ≤ ws.length ∧ (wrs D ws).1.now = redo D.now (lg (ws.take k)) ∧ (wrs D ws).1.log = D.log ++ lg (ws.take k) ∧ (wrs D ws).1.first = D.first ∧ ((wrs D ws).2 = true → k = ws.length) ∧ ((wrs D ws).2 = false → k < ws.length) ∧ (wrs D ws).1.lim = D.lim
  | [], D => ⟨0, Nat.le_refl _, rfl, by simp [wrs, lg], rfl, fun _ => rfl, fun h => by simp [wrs] at h, rfl⟩
  | x :: ws, D => by
    by_cases hs : D.lim = true ∧ D.left = 0
    · have e : wrs D (x :: ws) = (D, false) := by simp [wrs, dwr, hs]
      rw [e]
      exact ⟨0, by simp, rfl, by simp [lg], rfl, by simp, by simp, rfl⟩
    · have e : wrs D (x :: ws) = wrs (D.write x.1 x.2) ws := by
        have hd : dwr D x.1 x.2 = (D.write x.1 x.2, true) := by unfold dwr; rw [if_neg hs]
        rw [wrs, hd]; rfl
      rw [e]
      obtain ⟨k, h1, h2, h3, h4, h5, h6, h7⟩ := wrs_split ws (D.write x.1 x.2)
      refine ⟨k + 1, by simp; omega, by rw [h2]; rfl, by rw [h3]; simp [Dev.write, lg], by rw [h4]; rfl, fun h => by simp [h5 h], fun h => by have := h6 h; simp; omega, by rw [h7]; rfl⟩
theorem parse_now {D D' : Dev} {ep u : Nat} {l : List ByteArray} (h : parseP D = some (ep, u, l)) (e : D'.now = D.now) : parseP D' = some (ep, u, l) := by
  have hb : ∀ i, blkAt D' i = blkAt D i := by intro i; unfold blkAt; rw [e]
  refine parse_same h (by rw [e]) (hb 0) (fun i _ => hb _) (fun hu => ?_)
  have := scan_end0 (parse_iff.1 h).2.2
  unfold blkS
  rw [hb]
  rcases this with h | h
  · omega
  · exact h
theorem loadL_app : ∀ (l m : List ByteArray) (v : Int) (T : List Bl), loadL (l ++ m) v T = (loadL l v T).bind fun x => loadL m x.1 x.2
  | [], m, v, T => rfl
  | s :: l, m, v, T => by
    simp only [List.cons_append, loadL]
    split
    · exact loadL_app l m _ _
    · rfl
theorem ins_end : ∀ (A : List Bl) (x : Bl), (∀ a ∈ A, a.t.less x.t = true) → insT A x = A ++ [x]
  | [], x, _ => rfl
  | y :: r, x, h => by
    have h1 := h y List.mem_cons_self
    rw [insT, if_neg (fun e => less_ne h1 e.symm), if_neg (by rw [less_asym h1]; simp), ins_end r x (fun a ha => h a (List.mem_cons_of_mem _ ha))]
    rfl
/-- Tiles that a cache holds: in order, valid, not empty. -/
structure TGood (T : List Bl) : Prop where
  so : Sorted T
  fi : Fits T
  ok : ∀ b ∈ T, b.t.ok = true ∧ b.s.size ≠ 0
theorem apply_sorted : ∀ (T A : List Bl), Sorted (A ++ T) → (∀ b ∈ T, b.s.size ≠ 0) → applyT A T = A ++ T
  | [], A, _, _ => by simp [applyT]
  | x :: T, A, h, hz => by
    have h1 : ∀ a ∈ A, a.t.less x.t = true := fun a ha => (List.pairwise_append.1 h).2.2 a ha x List.mem_cons_self
    have e : patch1 A x = A ++ [x] := by unfold patch1; rw [if_neg (hz x List.mem_cons_self), ins_end A x h1]
    have := apply_sorted T (A ++ [x]) (by rw [List.append_assoc]; exact h) (fun b hb => hz b (List.mem_cons_of_mem _ hb))
    show applyT (patch1 A x) T = _
    rw [e, this, List.append_assoc]; rfl
theorem TGood.ord {T : List Bl} (h : TGood T) : ordB T = true := by
  unfold ordB
  rw [List.all_eq_true]
  intro i hi
  have hi : i < T.length := List.mem_range.1 hi
  unfold goodAt
  rw [Bool.and_eq_true, Bool.or_eq_true, tlAt_get hi]
  refine ⟨(h.ok _ (List.getElem_mem hi)).1, ?_⟩
  by_cases h0 : i = 0
  · left; simpa using h0
  · right
    rw [tlAt_get (show i - 1 < T.length by omega)]
    exact List.pairwise_iff_getElem.1 h.so (i - 1) i (by omega) hi (by omega)
theorem TGood.apply {T : List Bl} (h : TGood T) {l : List Bl} (hf : Fits l) (ho : ∀ b ∈ l, b.t.ok = true) : TGood (applyT T l) := by
  refine ⟨h.so.apply l, h.fi.apply hf, ?_⟩
  have : ∀ (l T : List Bl), (∀ b ∈ l, b.t.ok = true) → (∀ b ∈ T, b.t.ok = true ∧ b.s.size ≠ 0) → ∀ b ∈ applyT T l, b.t.ok = true ∧ b.s.size ≠ 0 := by
    intro l
    induction l with
    | nil => intro T _ h2; exact h2
    | cons x l ih =>
      intro T h1 h2
      refine ih (patch1 T x) (fun b hb => h1 b (List.mem_cons_of_mem _ hb)) ?_
      intro b hb
      unfold patch1 at hb
      split at hb
      · exact h2 b (List.mem_filter.1 hb).1
      · rename_i hz
        rcases ins_mem hb with rfl | hb
        · exact ⟨h1 b List.mem_cons_self, hz⟩
        · exact h2 b hb
  exact this l T ho h.ok
theorem ins_len : ∀ (T : List Bl) (x : Bl), (insT T x).length ≤ T.length + 1
  | [], x => by simp [insT]
  | y :: r, x => by
    have := ins_len r x
    rw [insT]
    split
    · simp
    · split
      · simp
      · simp; omega
theorem apply_len : ∀ (l T : List Bl), (applyT T l).length ≤ T.length + l.length
  | [], T => by simp [applyT]
  | x :: l, T => by
    have h1 := apply_len l (patch1 T x)
    have h2 : (patch1 T x).length ≤ T.length + 1 := by
      unfold patch1
      split
      · have := List.length_filter_le (fun b => decide (b.t ≠ x.t)) T
        unfold delT; omega
      · exact ins_len T x
    show (applyT (patch1 T x) l).length ≤ _
    rw [List.length_cons]; omega
/-- What a device shows to Open. -/
def Shows (now : List Blk) (v : Int) (T : List Bl) : Prop := ∃ D ep u l, D.now = now ∧ parseP D = some (ep, u, l) ∧ loadL l (-1) [] = some (v, T)
theorem Shows.at_ {now : List Blk} {v : Int} {T : List Bl} (h : Shows now v T) {D : Dev} (e : D.now = now) : ∃ ep u l, parseP D = some (ep, u, l) ∧ loadL l (-1) [] = some (v, T) := by
  obtain ⟨D0, ep, u, l, h1, h2, h3⟩ := h
  exact ⟨ep, u, l, parse_now h2 (by rw [e, h1]), h3⟩
structure CGood (C : Cn) : Prop where
  jp : parseP C.J.D = some (C.J.ep, C.J.u, C.J.l)
  ld : loadL C.J.l (-1) [] = some (C.ver, C.T)
  lv : C.J.D.now = redo C.J.D.first C.J.D.log
  h5 : 5 ≤ C.J.D.now.length
  ht : C.J.D.now.length ≤ 65536
  v0 : -1 ≤ C.ver
  v1 : C.ver ≤ 2147483647
  tg : TGood C.T
theorem CGood.shows {C : Cn} (h : CGood C) : Shows C.J.D.now C.ver C.T := ⟨C.J.D, _, _, _, rfl, h.jp, h.ld⟩
/-- From one cache to the next by writes: behind each of them but the last the old state shows. -/
structure CStep (C C' : Cn) : Prop where
  fs : C'.J.D.first = C.J.D.first
  len : C'.J.D.now.length = C.J.D.now.length
  lim : C'.J.D.lim = C.J.D.lim
  lg : ∃ g, C'.J.D.log = C.J.D.log ++ g ∧ g.length ≤ C.J.D.now.length ∧ ∀ k, k < g.length → Shows (redo C.J.D.now (g.take k)) C.ver C.T
theorem CStep.refl (C : Cn) : CStep C C := ⟨rfl, rfl, rfl, [], by simp, by simp, by simp⟩
theorem hlf_half {D : Dev} (h : 5 ≤ D.now.length) (ht : D.now.length ≤ 65536) : 2 * hlf D + 1 ≤ D.now.length ∧ hlf D ≤ 32767 := by unfold hlf; omega
/-- Writes of which each proper prefix keeps the journal: what they leave where they may stop. -/
theorem CGood.stopped {C : Cn} (h : CGood C) (ws : List (Nat × ByteArray)) (hl : ws.length ≤ C.J.D.now.length) (hpart : ∀ k, k < ws.length → parseP (wN C.J.D (ws.take k)) = some (C.J.ep, C.J.u, C.J.l)) (ver : Int) (T : List Bl) (hb : (wrs C.J.D ws).2 = false) :
    CGood ⟨{ C.J with D := (wrs C.J.D ws).1 }, C.ver, C.T⟩ ∧ CStep C ⟨{ C.J with D := (wrs C.J.D ws).1 }, C.ver, C.T⟩ := by
  obtain ⟨k, k1, k2, k3, k4, k5, k6, k7⟩ := wrs_split ws C.J.D
  have hk := k6 hb
  have hlen := (wrs_len C.J.D ws).1
  have hp := parse_now (hpart k hk) (D' := (wrs C.J.D ws).1) (by rw [k2, wN_now])
  refine ⟨⟨hp, h.ld, ?_, by simpa [hlen] using h.h5, by simpa [hlen] using h.ht, h.v0, h.v1, h.tg⟩, ⟨k4, hlen, k7, lg (ws.take k), k3, ?_, ?_⟩⟩
  · show (wrs C.J.D ws).1.now = redo (wrs C.J.D ws).1.first (wrs C.J.D ws).1.log
    rw [k2, k3, k4, redo_app, ← h.lv]
  · rw [lg_len, List.length_take]; omega
  · intro j hj
    rw [lg_len, List.length_take] at hj
    rw [lg_take, List.take_take, Nat.min_eq_left (by omega), ← wN_now]
    exact ⟨_, _, _, _, rfl, hpart j (by omega), h.ld⟩
theorem CGood.done {C : Cn} (h : CGood C) (ws : List (Nat × ByteArray)) (hl : ws.length ≤ C.J.D.now.length) (hpart : ∀ k, k < ws.length → parseP (wN C.J.D (ws.take k)) = some (C.J.ep, C.J.u, C.J.l)) {ver : Int} {T : List Bl} {ep u : Nat} {l : List ByteArray}
    (hall : parseP (wN C.J.D ws) = some (ep, u, l)) (hld : loadL l (-1) [] = some (ver, T)) (h0 : -1 ≤ ver) (h1 : ver ≤ 2147483647) (ht : TGood T) (hb : (wrs C.J.D ws).2 = true) :
    CGood ⟨⟨(wrs C.J.D ws).1, ep, u, l⟩, ver, T⟩ ∧ CStep C ⟨⟨(wrs C.J.D ws).1, ep, u, l⟩, ver, T⟩ := by
  obtain ⟨k, k1, k2, k3, k4, k5, k6, k7⟩ := wrs_split ws C.J.D
  have hk := k5 hb
  subst hk
  rw [List.take_length] at k2 k3
  have hlen := (wrs_len C.J.D ws).1
  have hp := parse_now hall (D' := (wrs C.J.D ws).1) (by rw [k2, wN_now])
  refine ⟨⟨hp, hld, ?_, by simpa [hlen] using h.h5, by simpa [hlen] using h.ht, h0, h1, ht⟩, ⟨k4, hlen, k7, lg ws, k3, ?_, ?_⟩⟩
  · show (wrs C.J.D ws).1.now = redo (wrs C.J.D ws).1.first (wrs C.J.D ws).1.log
    rw [k2, k3, k4, redo_app, ← h.lv]
  · rw [lg_len]; exact hl
  · intro j hj
    rw [lg_len] at hj
    rw [lg_take, ← wN_now]
    exact ⟨_, _, _, _, rfl, hpart j hj, h.ld⟩
theorem appW_len (D : Dev) (ep u : Nat) (s : ByteArray) : (appW D ep u s).length ≤ cnt s.size + 2 := by
  unfold appW
  rw [List.length_append, List.length_append, bodyW_len]
  split <;> simp
theorem resetW_len (D : Dev) (ep : Nat) (l : List ByteArray) : (resetW D ep l).length ≤ sumC l + 2 := by
  unfold resetW
  rw [List.length_append, List.length_append, resW_len]
  split <;> simp
theorem rec_ok {C : Cn} {ver : Int} {l : List Bl} (h1 : C.ver < ver) (h2 : ver ≤ 2147483647) (ho : ordB l = true) (hv : InInt ver) (hl : l.length < 9223372036854775808) (hf : Fits l) : loadL [encP ver l] C.ver C.T = some (ver, applyT C.T l) := by
  have hd := dec_enc ver l hv hl hf
  unfold loadL
  have hr : recOk (encP ver l) C.ver = true := by
    unfold recOk
    rw [hd]
    simp [h1, h2, ho]
  rw [if_pos hr, hd]
  rfl
theorem fits_of {l : List Bl} (ho : ordB l = true) (hsz : ∀ b ∈ l, b.s.size ≤ 4294967296) : Fits l := by
  intro b hb
  have h1 := ok_fits (ord_ok ho b hb)
  exact ⟨h1.1, h1.2.1, h1.2.2, hsz b hb⟩
theorem put_step {C : Cn} (h : CGood C) (ver : Int) (l : List Bl) (hl : l.length < 9223372036854775808) (hsz : ∀ b ∈ l, b.s.size ≤ 4294967296) : CGood (putC C ver l).1 ∧ CStep C (putC C ver l).1 := by
  unfold putC
  split
  · exact ⟨h, CStep.refl C⟩
  · rename_i hv
    split
    · exact ⟨h, CStep.refl C⟩
    · rename_i ho
      have ho : ordB l = true := by simpa using ho
      have hf := fits_of ho hsz
      have hh := hlf_half h.h5 h.ht
      have hps := parse_size h.jp
      have hvi : InInt ver := by have := h.v0; unfold InInt; omega
      by_cases hfit : hlf C.J.D < C.J.u + 1 + cnt (encP ver l).size
      · have e : appendP C.J (encP ver l) = (C.J, false) := by unfold appendP; exact if_pos hfit
        rw [e]
        exact ⟨h, CStep.refl C⟩
      · have e : appendP C.J (encP ver l) = if (wrs C.J.D (appW C.J.D C.J.ep C.J.u (encP ver l))).2 then ({ C.J with D := (wrs C.J.D (appW C.J.D C.J.ep C.J.u (encP ver l))).1, u := C.J.u + 1 + cnt (encP ver l).size, l := C.J.l ++ [encP ver l] }, true)
          else ({ C.J with D := (wrs C.J.D (appW C.J.D C.J.ep C.J.u (encP ver l))).1 }, false) := by unfold appendP; exact if_neg hfit
        have hlen := appW_len C.J.D C.J.ep C.J.u (encP ver l)
        have hpart := fun k hk => append_part (k := k) (encP ver l) h.jp (by omega) hh.1 hk
        rw [e]
        rcases hb : (wrs C.J.D (appW C.J.D C.J.ep C.J.u (encP ver l))).2 with _ | _
        · simp only [Bool.false_eq_true, if_false]
          exact h.stopped _ (by omega) hpart ver C.T hb
        · simp only [if_true]
          refine h.done _ (by omega) hpart (append_all _ h.jp (by omega) hh.1 hh.2) ?_ (by have := h.v0; omega) (by omega) (h.tg.apply hf (ord_ok ho)) hb
          rw [loadL_app, h.ld]
          exact rec_ok (by omega) (by omega) ho hvi hl hf
def compactC (C : Cn) : Cn × Int :=
  if C.ver < 0 then (C, 0) else (⟨(resetP C.J [encP C.ver C.T]).1, C.ver, C.T⟩, okE (resetP C.J [encP C.ver C.T]).2)
theorem load_one {v : Int} {T : List Bl} (h0 : 0 ≤ v) (h1 : v ≤ 2147483647) (ht : TGood T) (hl : T.length < 9223372036854775808) : loadL [encP v T] (-1) [] = some (v, T) := by
  have := rec_ok (C := ⟨⟨⟨[], [], [], false, 0⟩, 0, 0, []⟩, -1, []⟩) (ver := v) (l := T) (by show (-1 : Int) < v; omega) h1 ht.ord (by unfold InInt; omega) hl ht.fi
  rw [this, apply_sorted T [] ht.so (fun b hb => (ht.ok b hb).2)]
  rfl
theorem compact_step {C : Cn} (h : CGood C) (hl : C.T.length < 9223372036854775808) : CGood (compactC C).1 ∧ CStep C (compactC C).1 := by
  unfold compactC
  split
  · exact ⟨h, CStep.refl C⟩
  · rename_i hv
    have hh := hlf_half h.h5 h.ht
    have hps := parse_size h.jp
    by_cases hfit : hlf C.J.D < sumC [encP C.ver C.T]
    · have e : resetP C.J [encP C.ver C.T] = (C.J, false) := by unfold resetP; exact if_pos hfit
      rw [e]
      exact ⟨h, CStep.refl C⟩
    · have e : resetP C.J [encP C.ver C.T] = if (wrs C.J.D (resetW C.J.D C.J.ep [encP C.ver C.T])).2 then (⟨(wrs C.J.D (resetW C.J.D C.J.ep [encP C.ver C.T])).1, nextE C.J.ep, sumC [encP C.ver C.T], [encP C.ver C.T]⟩, true)
        else ({ C.J with D := (wrs C.J.D (resetW C.J.D C.J.ep [encP C.ver C.T])).1 }, false) := by unfold resetP; exact if_neg hfit
      have hlen := resetW_len C.J.D C.J.ep [encP C.ver C.T]
      have h5 := h.h5
      have hpart := fun k hk => reset_part (k := k) (m := [encP C.ver C.T]) h.jp (by omega) hh.1 hps.2.2.2 hps.1 hk
      rw [e]
      rcases hb : (wrs C.J.D (resetW C.J.D C.J.ep [encP C.ver C.T])).2 with _ | _
      · simp only [Bool.false_eq_true, if_false]
        exact h.stopped _ (by omega) hpart C.ver C.T hb
      · simp only [if_true]
        exact h.done _ (by omega) hpart (reset_all (u := 0) (l := []) (by omega) hh.1 hh.2 hps.2.2.2) (load_one (by omega) h.v1 h.tg hl) h.v0 h.v1 h.tg hb
theorem format_parse (n : Nat) (h5 : 5 ≤ n) (h6 : n ≤ 65536) : parseP (Dev.fresh n).format = some (0, 0, []) := by
  have hn : (Dev.fresh n).now.length = n := by simp [Dev.fresh]
  have hh := hlf_half (D := Dev.fresh n) (by omega) (by omega)
  have e : (Dev.fresh n).format = wN (Dev.fresh n) [(1, ⟨#[]⟩), (0, rootS 0)] := rfl
  have hin : ∀ x ∈ ([(1, ⟨#[]⟩), (0, rootS 0)] : List (Nat × ByteArray)), x.1 < (Dev.fresh n).now.length := by
    intro x hx
    rw [hn]
    rcases List.mem_cons.1 hx with rfl | hx
    · dsimp only; omega
    · have := List.mem_singleton.1 hx
      subst this
      dsimp only; omega
  have hnd : (([(1, ⟨#[]⟩), (0, rootS 0)] : List (Nat × ByteArray)).map (·.1)).Nodup := by simp
  have hroot : blkAt (Dev.fresh n).format 0 = padB (rootS 0) := by rw [e]; exact blkAt_mem _ hnd hin (by simp)
  have h1 : blkAt (Dev.fresh n).format 1 = padB ⟨#[]⟩ := by rw [e]; exact blkAt_mem _ hnd hin (by simp)
  obtain ⟨p1, p2⟩ := root_back _ 0 0 hroot (by omega)
  refine parse_iff.2 ⟨p1, p2, ?_⟩
  have hf : fst0 (Dev.fresh n).format 0 = 1 := rfl
  have hl : hlf (Dev.fresh n).format = hlf (Dev.fresh n) := by rw [e]; exact hlf_wN _ _
  rw [hf, hl, scan_laid _ 1 (hlf (Dev.fresh n)) hh.2 [] 0 (hlf (Dev.fresh n)) [] trivial (by simp [sumC]) (by omega) ?_]
  · rfl
  · intro _
    exact byteAt_pad0 _ _ h1
theorem start_good (n : Nat) (h5 : 5 ≤ n) (h6 : n ≤ 65536) : CGood ⟨⟨(Dev.fresh n).format, 0, 0, []⟩, -1, []⟩ := by
  have hn : (Dev.fresh n).format.now.length = n := by simp [Dev.format, Dev.write, Dev.fresh]
  refine ⟨format_parse n h5 h6, rfl, rfl, by show 5 ≤ (Dev.fresh n).format.now.length; omega, by show (Dev.fresh n).format.now.length ≤ _; omega, by show (-1 : Int) ≤ -1; omega, by show (-1 : Int) ≤ 2147483647; omega, ⟨List.Pairwise.nil, (fun b hb => by cases hb), (fun b hb => by cases hb)⟩⟩
/-- What Open finds behind a number of writes that end within a step. -/
theorem step_show {C C' : Cn} (h : CGood C) (h' : CGood C') (k : CStep C C') (g2 : List (Nat × Blk)) {D : Dev} (hf : D.first = C.J.D.first) (hl : D.log = C'.J.D.log ++ g2) (n : Nat) (h1 : C.J.D.log.length ≤ n) (h2 : n ≤ C'.J.D.log.length) :
    Shows (redo D.first (D.log.take n)) (if n = C'.J.D.log.length then C'.ver else C.ver) (if n = C'.J.D.log.length then C'.T else C.T) := by
  obtain ⟨g, e1, _, e2⟩ := k.lg
  rw [hl, List.take_append_of_le_length h2, hf]
  by_cases hn : n = C'.J.D.log.length
  · rw [if_pos hn, if_pos hn, hn, List.take_length, ← k.fs, ← h'.lv]
    exact h'.shows
  · rw [if_neg hn, if_neg hn, e1, List.take_append, List.take_of_length_le h1, redo_app, ← h.lv]
    rw [e1, List.length_append] at h2 hn
    exact e2 (n - C.J.D.log.length) (by omega)
end Go.Proofs.YtjflcpkmoamijaaGreatDoor
namespace Go.Proofs.YtjflcpkmoamijaaGreatDoor
open Go.RowKit
set_option linter.unusedVariables false
set_option linter.unusedSimpArgs false
set_option linter.unnecessarySimpa false

theorem strs_new (w : World) (s : ByteArray) : (w.alloc (.cells #[.string s] 9)).ownsRow w.heap.size 9 1 (.slice (some ⟨w.heap.size, 0, none⟩) 1 1) ([s] : List ByteArray).length (([s] : List ByteArray).map .string) :=
  ⟨by simp, .inr ⟨w.heap.size, 1, _, rfl, Nat.le_refl _, heap_alloc_new w _, by simp, by unfold maxLen; omega, rfl, by simp⟩⟩
set_option maxHeartbeats 1000000 in
set_option maxRecDepth 100000 in
theorem Compact_any (r : DRef) (cb jb mb B n : Nat) (vr : Value) (C : Cn) (w : World) (h : CIn w B r cb jb mb n vr C) (hB : B ≤ w.heap.size) (hv : InInt C.ver) (hT : C.T.length ≤ 1000) (hn : n ≤ 900000000) (hep : C.J.ep ≤ 2147483647) (hlog : C.J.D.log.length ≤ 900000) :
    Calls Tryz.prog 24 #[.pointer (some ⟨cb, 0, none⟩)] w (CaPost r cb jb mb B n vr (compactC C) w) := by
  obtain ⟨J, ver, T⟩ := C
  obtain ⟨hd, hc⟩ := h
  simp only at hd hc hlog hT hv hep
  have c0 := hc.c.c0
  have c1 := hc.c.c1
  have HD := Lib.hid hd
  have HC := Lib.hid hc
  have HV := Lib.hid hv
  have HCP : Hid (compactC ⟨J, ver, T⟩ = if ver < 0 then (⟨J, ver, T⟩, 0) else (⟨(resetP J [encP ver T]).1, ver, T⟩, okE (resetP J [encP ver T]).2)) := rfl
  clear hd hc hv
  by_cases h0 : ver < 0
  · go_enter Tryz.func24, Tryz.ntmps24
    go_wp2_with fail
    go_ret
    rw [HCP.out, if_pos h0]
    exact ⟨rfl, r, vr, n, Nat.le_refl _, ⟨HD.out, HC.out⟩, rfl, Fr.refl _ _, fun _ _ h => h⟩
  · have hcp2 := HCP.out
    rw [if_neg h0] at hcp2
    have HCP2 := Lib.hid hcp2
    clear HCP hcp2
    go_enter Tryz.func24, Tryz.ntmps24
    go_wp2_with fail
    refine region_seq (fun w' => w'.cell? ⟨cb, 0, none⟩ = some (.pointer (some ⟨jb, 0, none⟩)) ∧ w'.cell? ⟨cb, 1, none⟩ = some (.int .i64 ver)) []
      [(.p, 0), (.p, 1), (.p, 2), (.q, 3), (.p, 4), (.p, 5), (.p, 6), (.q, 7), (.p, 8), (.l, 9), (.l, 10), (.l, 11), (.l, 12), (.p, 13)] (by kernel_rfl) (by kernel_rfl) (by kernel_rfl) (by kernel_rfl) (fun d v c a w h => by cases d <;> exact h) ?_
    have hS : w.drew.cell? ⟨cb, 0, none⟩ = some (.pointer (some ⟨jb, 0, none⟩)) ∧ w.drew.cell? ⟨cb, 1, none⟩ = some (.int .i64 ver) := ⟨c0, c1⟩
    (refine seq_p (N := some 10) rfl rfl (by rfl) ?_ (fun w' => ?_) ?_
     rotate_left
     · go_simp
       with_reducible rfl
     simp only [Act.put, List.setIfInBounds_toArray, List.set_cons_zero, List.set_cons_succ])
    (refine seq_p (N := some 11) rfl rfl (by rfl) ?_ (fun w' => ?_) ?_
     rotate_left
     · go_simp
       with_reducible rfl
     simp only [Act.put, List.setIfInBounds_toArray, List.set_cons_zero, List.set_cons_succ])
    (refine seq_p (N := some 12) rfl rfl (by rfl) ?_ (fun w' => ?_) ?_
     rotate_left
     · go_simp
       with_reducible rfl
     simp only [Act.put, List.setIfInBounds_toArray, List.set_cons_zero, List.set_cons_succ])
    (refine seq_q (N := some 13) rfl rfl (by rfl) ?_ ?_ hS ?_
     rotate_left
     · rintro w' ⟨s1, s2⟩
       go_simp
       with_reducible rfl
     simp only [Act.put, List.setIfInBounds_toArray, List.set_cons_zero, List.set_cons_succ])
    (refine seq_p (N := some 14) rfl rfl (by rfl) ?_ (fun w' => ?_) ?_
     rotate_left
     · go_simp
       with_reducible rfl
     simp only [Act.put, List.setIfInBounds_toArray, List.set_cons_zero, List.set_cons_succ])
    (refine seq_p (N := some 15) rfl rfl (by rfl) ?_ (fun w' => ?_) ?_
     rotate_left
     · go_simp
       with_reducible rfl
     simp only [Act.put, List.setIfInBounds_toArray, List.set_cons_zero, List.set_cons_succ])
    (refine seq_p (N := some 16) rfl rfl (by rfl) ?_ (fun w' => ?_) ?_
     rotate_left
     · go_simp
       with_reducible rfl
     simp only [Act.put, List.setIfInBounds_toArray, List.set_cons_zero, List.set_cons_succ])
    (refine seq_q (N := some 17) rfl rfl (by rfl) ?_ ?_ hS ?_
     rotate_left
     · rintro w' ⟨s1, s2⟩
       go_simp
       with_reducible rfl
     simp only [Act.put, List.setIfInBounds_toArray, List.set_cons_zero, List.set_cons_succ])
    (refine seq_p (N := some 18) rfl rfl (by rfl) ?_ (fun w' => ?_) ?_
     rotate_left
     · go_simp
       with_reducible rfl
     simp only [Act.put, List.setIfInBounds_toArray, List.set_cons_zero, List.set_cons_succ])
    have hb0 : Below w.heap.size w w.drew := (Below.refl w.heap.size w).drew
    have C1 := Lib.hid (HC.out.below hb0)
    have B1 := Lib.hid hb0
    refine seq_l rfl (by rfl) (wp_cl (N := some 19) (f := 28) (vs := #[.pointer (some ⟨cb, 0, none⟩)]) rfl rfl (by simp [Act.eval]) (callF Tryz.func28 rfl (by decide) _ _) ?_)
    refine (Tiles_any cb jb mb n ver T w.drew C1.out.c C1.out.m C1.out.so C1.out.fi (by omega)).mono ?_
    rintro e w2 ⟨v, rfl, o2, b2⟩
    have B2 := Lib.hid (B1.out.trans (b2.mono B1.out.size))
    have V2 := Lib.hid (own_blobs o2)
    have C2 := Lib.hid (HC.out.below B2.out)
    refine ⟨_, rfl, ?_⟩
    simp only [Act.put, List.setIfInBounds_toArray, List.set_cons_zero, List.set_cons_succ]
    refine ⟨fun _ => ⟨C2.out.c.c0, C2.out.c.c1⟩, ?_⟩
    clear o2 b2 hb0 hS C1 B1
    refine seq_l rfl (by rfl) (wp_cl (N := some 20) (f := 55) (vs := #[.int .i64 ver, v]) rfl rfl (by simp [Act.eval]) (callF Tryz.func55 rfl (by decide) _ _) ?_)
    refine (encode_any ver v T w2 V2.out HV.out hT C2.out.fi).mono ?_
    rintro e w3 ⟨rfl, b3⟩
    have B3 := Lib.hid (B2.out.trans (b3.mono B2.out.size))
    have C3 := Lib.hid (HC.out.below B3.out)
    refine ⟨_, rfl, ?_⟩
    simp only [Act.put, List.setIfInBounds_toArray, List.set_cons_zero, List.set_cons_succ]
    refine ⟨fun _ => ⟨C3.out.c.c0, C3.out.c.c1⟩, ?_⟩
    clear b3 V2 C2 B2
    have hes := encP_size ver T HC.out.fi
    have HES : Hid ((encP ver T).size ≤ 10000000000000) := by show _ ≤ _; omega
    clear hes
    refine seq_l rfl (by rfl) (wp_bs (N := some 21) (t := 22) (n := 1) (ps := #[(0, .string (encP ver T))]) rfl rfl (by simp [Act.eval]) (run_bs_str w3 (encP ver T)) ?_)
    have o4 := strs_new w3 (encP ver T)
    have B4 := Lib.hid (B3.out.alloc B3.out.size (.cells #[.string (encP ver T)] 9))
    have C4 := Lib.hid (HC.out.below B4.out)
    have D4 := Lib.hid (HD.out.below B4.out)
    have O4 := Lib.hid o4
    clear o4
    generalize w3.alloc (.cells #[.string (encP ver T)] 9) = w4 at *
    simp only [Act.put, List.setIfInBounds_toArray, List.set_cons_zero, List.set_cons_succ]
    refine ⟨fun _ => ⟨C4.out.c.c0, C4.out.c.c1⟩, ?_⟩
    refine seq_l rfl (by rfl) (wp_cl (N := some 22) (f := 57) (vs := #[.pointer (some ⟨jb, 0, none⟩), .slice (some ⟨w3.heap.size, 0, none⟩) 1 1]) rfl rfl (by simp [Act.eval]) (callF Tryz.func57 rfl (by decide) _ _) ?_)
    refine (Reset_any r J jb B w3.heap.size vr _ [encP ver T] w4 D4.out C4.out.j (Nat.le_trans hB B4.out.size) O4.out (fun s hs => by rw [List.mem_singleton.1 hs]; exact HES.out) (by simp) hep hlog).mono ?_
    rintro e w8 ⟨rfl, r8, vr8, d8, j8, e8, f8, s8, t8⟩
    have nc := cc_dev_ne D4.out C4.out.c
    have nm := map_dev_ne D4.out C4.out.m
    have ncj := cc_j_ne C4.out.j C4.out.c
    have nmj := map_j_ne C4.out.j C4.out.m
    have c8 : CCell w8 cb jb mb ver := C4.out.c.fr f8 (fun h => h.elim nc ncj)
    have m8 : MapIs w8 mb n T := C4.out.m.fr f8 (fun h => h.elim nm nmj)
    have HP : Hid (CaPost r cb jb mb B n vr (compactC ⟨J, ver, T⟩) w (.returned (.int .i64 (okE (resetP J [encP ver T]).2))) w8) := by
      show CaPost _ _ _ _ _ _ _ _ _ _ _
      rw [HCP2.out]
      refine ⟨rfl, r8, vr8, n, Nat.le_refl _, ⟨d8, ⟨c8, ?_, m8, HC.out.so, HC.out.fi⟩⟩, e8, ?_, ?_⟩
      · rw [e8]; exact j8
      · exact (Fr.of_below B4.out _).trans f8 (fun k _ h => h.elim .inl (fun h => .inr (.inr (.inr h))))
      · intro k hk h
        have hk7 : k < w4.heap.size := Nat.lt_of_lt_of_le hk B4.out.size
        rcases h with h | h | h | h
        · exact .inl (s8 k hk7 h)
        · exact .inr (.inl h)
        · exact .inr (.inr (.inl h))
        · exact .inr (.inr (.inr (t8 k hk7 h)))
    refine ⟨_, rfl, ?_⟩
    simp only [Act.put, List.setIfInBounds_toArray, List.set_cons_zero, List.set_cons_succ]
    refine ⟨fun _ => ⟨c8.c0, c8.c1⟩, ?_⟩
    clear d8 j8 f8 s8 t8 nc nm ncj nmj c8 m8
    (refine seq_p (N := some 2) rfl rfl (by rfl) ?_ (fun w' => ?_) ?_
     rotate_left
     · go_simp
       with_reducible rfl
     simp only [Act.put, List.setIfInBounds_toArray, List.set_cons_zero, List.set_cons_succ])
    refine seq_nil ?_
    go_wp2_with fail
    go_ret
    exact HP.out
end Go.Proofs.YtjflcpkmoamijaaGreatDoor
