import Derived.Test.YtjflcpkmoamijaaGreatDoorRdr
import Derived.Laws.BitsLemmas
namespace Go.Proofs.YtjflcpkmoamijaaGreatDoor
open Go.RowKit
set_option linter.unusedVariables false
set_option linter.unusedSimpArgs false
set_option linter.unnecessarySimpa false

/-- (*wire.Reader).count. -/
def countR (s : ByteArray) (a : Nat) (most : Int) : Int × Int × Nat :=
  (wrap64 (uintR s a).1, (if (uintR s a).2.1 = 0 ∧ most < (uintR s a).1 then 5 else (uintR s a).2.1), (uintR s a).2.2)
def CountPost (g : Nat) (s : ByteArray) (a0 : Nat) (most err : Int) (w : World) (e : Ending) (w' : World) : Prop :=
  e = .returned (.tuple #[.int .i64 (countR s a0 most).1, .int .i64 (countR s a0 most).2.1]) ∧ IsRd w' g s (countR s a0 most).2.2 err ∧ Fr w w' (· = g)
theorem CountPost.mk {g : Nat} {s : ByteArray} {a0 : Nat} {most err : Int} {w w' : World} {m e1 : Int} (hm : m = wrap64 (uintR s a0).1)
    (h : (if (uintR s a0).2.1 = 0 ∧ most < (uintR s a0).1 then (5 : Int) else (uintR s a0).2.1) = e1) (hr : IsRd w' g s (uintR s a0).2.2 err) (hf : Fr w w' (· = g)) :
    CountPost g s a0 most err w (.returned (.tuple #[.int .i64 m, .int .i64 e1])) w' := by
  unfold CountPost countR; rw [h, hm]; exact ⟨rfl, hr, hf⟩

set_option maxHeartbeats 400000 in
theorem count_any (g : Nat) (s : ByteArray) (a : Nat) (most err : Int) (w : World) (hs : s.size ≤ 140737488351232) (ha : a ≤ s.size) (hm0 : 0 ≤ most) (hm1 : most ≤ 140737488351232) (hr : IsRd w g s a err) :
    Calls Tryz.prog 109 #[.pointer (some ⟨g, 0, none⟩), .int .i64 most] w (CountPost g s a most err w) := by
  go_enter Tryz.func109, Tryz.ntmps109
  go_wp2_with fail
  refine (uint_any g s a err _ hs ha hr).mono ?_
  rintro e w2 ⟨rfl, hr2, hf2⟩
  have HR2 := Lib.hid hr2
  have HF2 := Lib.hid hf2
  clear hr2 hf2 hr
  obtain ⟨n, hn⟩ : ∃ n, n = (uintR s a).1 := ⟨_, rfl⟩
  obtain ⟨e1, he⟩ : ∃ n, n = (uintR s a).2.1 := ⟨_, rfl⟩
  rw [← hn, ← he]
  have HN := Lib.hid hn
  have HE := Lib.hid he
  clear hn he
  have hmneg : ¬ most < 0 := by omega
  have hw : IntKind.u64.wrap most = most := by simp only [IntKind.wrap_u64]; omega
  by_cases h0 : e1 = 0
  · subst h0
    by_cases hgt : most < n
    · go_wp2
      go_ret2
      exact CountPost.mk (by rw [← HN.out]) (by rw [← HE.out, if_pos ⟨rfl, HN.out ▸ hgt⟩]) HR2.out HF2.out
    · go_wp2
      go_ret2
      exact CountPost.mk (by rw [← HN.out]) (by rw [← HE.out, if_neg (fun h => by have := h.2; rw [← HN.out] at this; omega)]) HR2.out HF2.out
  · have hb : (e1 == 0) = false := by simpa using h0
    go_wp2
    go_ret2
    exact CountPost.mk (by rw [← HN.out]) (by rw [← HE.out, if_neg (fun h => h0 h.1)]) HR2.out HF2.out

set_option maxHeartbeats 400000 in
theorem count_closure (g : Nat) (s : ByteArray) (a0 br bm bn : Nat) (most : Int) (v0 : Value) (w : World) (hs : s.size ≤ 140737488351232) (ha : a0 ≤ s.size) (hm0 : 0 ≤ most) (hm1 : most ≤ 140737488351232) (hr : IsRd w g s a0 0)
    (hb : Cell1 w br 122 (.pointer (some ⟨g, 0, none⟩))) (hm : Cell1 w bm 3 (.int .i64 most)) (hn : Cell1 w bn 3 v0) (n1 : br ≠ g) (n2 : bn ≠ g) :
    ReadsBy 108 #[.pointer (some ⟨br, 0, none⟩), .pointer (some ⟨bm, 0, none⟩), .pointer (some ⟨bn, 0, none⟩)] g s bn 3 (countR s a0 most).2.1 (countR s a0 most).2.2 (.int .i64 (countR s a0 most).1) w := by
  intro w1 hw1
  have hf1 : Fr w w1 Nowhere := Fr.of_below hw1 _
  have hr1 := hr.fr hf1 (fun h => h)
  have hb1 := hb.fr hf1 (fun h => h)
  have hm1' := hm.fr hf1 (fun h => h)
  have hn1 := hn.fr hf1 (fun h => h)
  clear hr hb hn hf1 hw1
  have c1 := hb1.c
  have c2 := hm1'.c
  have HR := Lib.hid hr1
  have HN := Lib.hid hn1
  clear hr1 hb1 hn1
  go_enter Tryz.func108, Tryz.ntmps108
  go_wp2_with fail
  refine (count_any g s a0 most 0 _ hs ha hm0 hm1 HR.out).mono ?_
  rintro e w2 ⟨rfl, hr2, hf2⟩
  have hn2 := HN.out.fr hf2 n2
  have c3 := hn2.c
  have c4 := hn2.f
  have HN2 := Lib.hid hn2
  have HR2 := Lib.hid hr2
  have HF2 := Lib.hid hf2
  clear hn2 hr2 hf2
  go_wp2
  go_ret
  exact ⟨rfl, HR2.out.other _ n2 _, HN2.out.set _, (HF2.out.mono (fun i _ h => .inl h)).setCell _ _ (fun _ => .inr rfl)⟩

/-- (*wire.Reader).Count. -/
def countM (s : ByteArray) (a : Nat) (err most : Int) : Int × Nat × Int :=
  if err = 0 then (if (countR s a most).2.1 = 0 then ((countR s a most).1, (countR s a most).2.2, 0) else (0, a, (countR s a most).2.1)) else (0, a, err)

/-- The world in which a reading method calls try: the reader's own variable, its limit's, its result's. -/
def w3of (w : World) (g : Nat) (most : Int) (z : Value) (t : TypeId) : World :=
  ((w.alloc (.cells #[.pointer (some ⟨g, 0, none⟩)] 122)).alloc (.cells #[.int .i64 most] 3)).alloc (.cells #[z] t)
theorem w3of_facts (w : World) (g : Nat) (most : Int) (z : Value) (t : TypeId) :
    Cell1 (w3of w g most z t) w.heap.size 122 (.pointer (some ⟨g, 0, none⟩)) ∧ Cell1 (w3of w g most z t) (w.heap.size + 1) 3 (.int .i64 most) ∧
    Cell1 (w3of w g most z t) (w.heap.size + 1 + 1) t z ∧ Fr w (w3of w g most z t) Nowhere := by
  refine ⟨((Cell1.new _ _ _).alloc _).alloc _, ?_, ?_, (((Fr.refl _ _).alloc _).alloc _).alloc _⟩
  · have := (Cell1.new (w.alloc (.cells #[.pointer (some ⟨g, 0, none⟩)] 122)) 3 (.int .i64 most)).alloc (.cells #[z] t)
    simpa [w3of] using this
  · have := Cell1.new ((w.alloc (.cells #[.pointer (some ⟨g, 0, none⟩)] 122)).alloc (.cells #[.int .i64 most] 3)) t z
    simpa [w3of] using this

set_option maxHeartbeats 400000 in
theorem Count_any (g : Nat) (s : ByteArray) (a : Nat) (err most : Int) (w : World) (hs : s.size ≤ 140737488351232) (ha : a ≤ s.size) (hm0 : 0 ≤ most) (hm1 : most ≤ 140737488351232) (hr : IsRd w g s a err) :
    Calls Tryz.prog 76 #[.pointer (some ⟨g, 0, none⟩), .int .i64 most] w (RdPost g s (countM s a err most).2 w (.int .i64 (countM s a err most).1)) := by
  have hmf : ∀ (fn : Fn) (first cap : Array Value) (w : World), (Instr.makeFunc fn first cap).run Tryz.prog w = .ok (.func fn first cap) w := fun _ _ _ _ => rfl
  have lg := hr.lt
  have HR := Lib.hid hr
  clear hr
  by_cases he : err = 0
  · subst he
    go_enter Tryz.func76, Tryz.ntmps76
    go_wp2_with fail
    obtain ⟨p0, p1, p2, pf⟩ := w3of_facts w g most (.int .i64 0) 3
    have hr2 := HR.out.fr pf (fun h => h)
    have P2 := Lib.hid p2
    have PF := Lib.hid pf
    have HR2 := Lib.hid hr2
    have hC := Lib.hid (count_closure g s a w.heap.size (w.heap.size + 1) (w.heap.size + 1 + 1) most (.int .i64 0) _ hs ha hm0 hm1 hr2 p0 p1 p2 (by omega) (by omega))
    clear p0 p1 p2 pf hr2
    refine (try_any _ _ g s (w.heap.size + 1 + 1) 3 a _ _ (.int .i64 0) _ _ (callF Tryz.func108 rfl (by decide)) HR2.out P2.out (by omega) hC.out).mono ?_
    rintro e w3 ⟨rfl, hr3, hh3, hf3⟩
    have c1 := hh3.c
    have hF : Fr w w3 (· = g) := (PF.out.mono (fun _ _ h => h.elim)).trans hf3 (by intro i hi h; rcases h with h | h; exact h; omega)
    have HR3 := Lib.hid hr3
    have HF := Lib.hid hF
    clear hr3 hh3 hf3 hF
    by_cases h0 : (countR s a most).2.1 = 0
    · have hM : Hid (countM s a 0 most = ((countR s a most).1, (countR s a most).2.2, 0)) := by unfold countM; rw [if_pos rfl, if_pos h0]; rfl
      rw [if_pos h0, h0] at HR3
      have hd : decide ((countR s a most).2.1 = 0) = true := by simpa using h0
      clear h0
      go_wp2
      go_ret
      rw [hM.out]
      exact ⟨rfl, HR3.out, HF.out⟩
    · have hM : Hid (countM s a 0 most = (0, a, (countR s a most).2.1)) := by unfold countM; rw [if_pos rfl, if_neg h0]; rfl
      rw [if_neg h0] at HR3
      have hd : decide ((countR s a most).2.1 = 0) = false := by simpa using h0
      clear h0
      go_wp2
      go_ret
      rw [hM.out]
      exact ⟨rfl, HR3.out, HF.out⟩
  · have hM : Hid (countM s a err most = (0, a, err)) := by unfold countM; rw [if_neg he]; rfl
    go_enter Tryz.func76, Tryz.ntmps76
    go_wp2_with fail
    obtain ⟨_, _, _, pf⟩ := w3of_facts w g most (.int .i64 0) 3
    refine (try_no _ _ g s a err _ (HR.out.fr pf (fun h => h)) he).mono ?_
    rintro e w3 ⟨rfl, hb3⟩
    have hF : Fr w w3 (· = g) := (pf.mono (fun _ _ h => h.elim)).tr (Fr.of_below hb3 _)
    have hr3 := (HR.out.fr pf (fun h => h)).fr (Fr.of_below hb3 Nowhere) (fun h => h)
    have HF := Lib.hid hF
    have HR3 := Lib.hid hr3
    clear hb3 hF hr3 pf
    go_wp2
    go_ret
    rw [hM.out]
    exact ⟨rfl, HR3.out, HF.out⟩
end Go.Proofs.YtjflcpkmoamijaaGreatDoor
