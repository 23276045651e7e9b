import Derived.Test.YtjflcpkmoamijaaGreatDoorTry
namespace Go.Proofs.YtjflcpkmoamijaaGreatDoor
open Go.RowKit
set_option linter.unusedVariables false
set_option linter.unusedSimpArgs false
set_option linter.unnecessarySimpa false

theorem callF {K : Nat} {fn : Func} {c : Code} (hf : Tryz.prog.funcs[K]? = some fn) (hb : fn.body = some c) (hn : (fn.name == "runtime.NumGoroutine") = false) (args : Array Value) (w : World) :
    (callFunc K args).run Tryz.prog w = .ok (.enter K args) w := by
  simp only [callFunc, program, Bind.bind, Sem.bind, Sem.run, hf, hn, hb]
  rfl

theorem uintGo_le (s : ByteArray) : ∀ f k a m, a ≤ s.size → (uintGo s f k a m).2.2 ≤ s.size := by
  intro f
  induction f with
  | zero => intro k a m h; exact h
  | succ f ih =>
    intro k a m h
    rcases Nat.lt_or_ge a s.size with hl | hl
    · by_cases hc : 128 ≤ byteAt s a
      · rw [uintGo_on hl hc]; exact ih _ _ _ (by omega)
      · by_cases hb : (0 < k ∧ byteAt s a = 0) ∨ (k = 9 ∧ 1 < byteAt s a)
        · rw [uintGo_bad hl (by omega) hb]; exact hl
        · rw [uintGo_ok hl (by omega) hb]; exact hl
    · rw [uintGo_end hl]; exact h
theorem uintR_le {s : ByteArray} {a : Nat} (h : a ≤ s.size) : (uintR s a).2.2 ≤ s.size := uintGo_le s _ _ _ _ h

set_option maxHeartbeats 400000 in
theorem uint_closure (g : Nat) (s : ByteArray) (a0 br bn : Nat) (v0 : Value) (w : World) (hs : s.size ≤ 140737488351232) (ha : a0 ≤ s.size) (hr : IsRd w g s a0 0)
    (hb : Cell1 w br 122 (.pointer (some ⟨g, 0, none⟩))) (hn : Cell1 w bn 104 v0) (n1 : br ≠ g) (n2 : bn ≠ g) (n3 : bn ≠ br) :
    ReadsBy 127 #[.pointer (some ⟨br, 0, none⟩), .pointer (some ⟨bn, 0, none⟩)] g s bn 104 (uintR s a0).2.1 (uintR s a0).2.2 (.int .u64 (uintR s a0).1) w := by
  intro w1 hw1
  have hf1 : Fr w w1 Nowhere := Fr.of_below hw1 _
  have hr1 := hr.fr hf1 (fun h => h)
  have hb1 := hb.fr hf1 (fun h => h)
  have hn1 := hn.fr hf1 (fun h => h)
  clear hr hb hn hf1 hw1
  have c1 := hb1.c
  have HR := Lib.hid hr1
  have HN := Lib.hid hn1
  clear hr1 hb1 hn1
  go_enter Tryz.func127, Tryz.ntmps127
  go_wp2_with fail
  refine (uint_any g s a0 0 _ hs ha HR.out).mono ?_
  rintro e w2 ⟨rfl, hr2, hf2⟩
  have hn2 := HN.out.fr hf2 n2
  have c3 := hn2.c
  have c4 := hn2.f
  have HN2 := Lib.hid hn2
  have HR2 := Lib.hid hr2
  have HF2 := Lib.hid hf2
  clear hn2 hr2 hf2
  go_wp2
  go_ret
  exact ⟨rfl, HR2.out.other _ n2 _, HN2.out.set _, (HF2.out.mono (fun i _ h => .inl h)).setCell _ _ (fun _ => .inr rfl)⟩

/-- (*wire.Reader).Uint: the number; the place; the error. -/
def uintM (s : ByteArray) (a : Nat) (err : Int) : Int × Nat × Int :=
  if err = 0 then (if (uintR s a).2.1 = 0 then ((uintR s a).1, (uintR s a).2.2, 0) else (0, a, (uintR s a).2.1)) else (0, a, err)
def RdPost (g : Nat) (s : ByteArray) (r : Nat × Int) (w : World) (v : Value) (e : Ending) (w' : World) : Prop :=
  e = .returned v ∧ IsRd w' g s r.1 r.2 ∧ Fr w w' (· = g)
theorem uintM_le {s : ByteArray} {a : Nat} {err : Int} (h : a ≤ s.size) : (uintM s a err).2.1 ≤ s.size := by
  unfold uintM; split
  · split
    · exact uintR_le h
    · exact h
  · exact h

set_option maxHeartbeats 400000 in
theorem try_no (K : Nat) (cap : Array Value) (g : Nat) (s : ByteArray) (a : Nat) (err : Int) (w : World) (hr : IsRd w g s a err) (he : err ≠ 0) :
    Calls Tryz.prog 107 #[.pointer (some ⟨g, 0, none⟩), .func (.func K) #[] cap] w fun e w' => e = .returned (.bool false) ∧ Below w.heap.size w w' := by
  have c1 := hr.c1
  have c2 := hr.c2
  have lg := hr.lt
  have h1 : (err != 0) = true := by simpa using he
  clear hr
  go_enter Tryz.func107, Tryz.ntmps107
  go_wp2
  have c5 : ((w.alloc (.cells #[.pointer (some ⟨g, 0, none⟩)] 122)).alloc (.cells #[.bool false] 4)).cell? ⟨w.heap.size + 1, 0, none⟩ = some (.bool false) := by
    have := (Cell1.new (w.alloc (.cells #[.pointer (some ⟨g, 0, none⟩)] 122)) 4 (.bool false)).c
    simpa using this
  refine bodyPost_ret (v := .bool false) ?_ rfl ⟨rfl, ((Below.refl _ _).alloc (Nat.le_refl _) _).alloc (by simp) _⟩
  simp [results, Tryz.results107, go_sem, c5]

set_option maxHeartbeats 400000 in
theorem Uint_any (g : Nat) (s : ByteArray) (a : Nat) (err : Int) (w : World) (hs : s.size ≤ 140737488351232) (ha : a ≤ s.size) (hr : IsRd w g s a err) :
    Calls Tryz.prog 103 #[.pointer (some ⟨g, 0, none⟩)] w (RdPost g s (uintM s a err).2 w (.int .u64 (uintM s a err).1)) := by
  have hmf : ∀ (fn : Fn) (first cap : Array Value) (w : World), (Instr.makeFunc fn first cap).run Tryz.prog w = .ok (.func fn first cap) w := fun _ _ _ _ => rfl
  have lg := hr.lt
  have HR := Lib.hid hr
  clear hr
  by_cases he : err = 0
  · subst he
    go_enter Tryz.func103, Tryz.ntmps103
    go_wp2_with fail
    have p0 : Cell1 ((w.alloc (.cells #[.pointer (some ⟨g, 0, none⟩)] 122)).alloc (.cells #[.int .u64 0] 104)) w.heap.size 122 (.pointer (some ⟨g, 0, none⟩)) := (Cell1.new _ _ _).alloc _
    have p1 : Cell1 ((w.alloc (.cells #[.pointer (some ⟨g, 0, none⟩)] 122)).alloc (.cells #[.int .u64 0] 104)) (w.heap.size + 1) 104 (.int .u64 0) := by
      have := Cell1.new (w.alloc (.cells #[.pointer (some ⟨g, 0, none⟩)] 122)) 104 (.int .u64 0)
      simpa using this
    have hr2 : IsRd ((w.alloc (.cells #[.pointer (some ⟨g, 0, none⟩)] 122)).alloc (.cells #[.int .u64 0] 104)) g s a 0 := (HR.out.alloc _).alloc _
    have P1 := Lib.hid p1
    have HR2 := Lib.hid hr2
    have hC := Lib.hid (uint_closure g s a w.heap.size (w.heap.size + 1) (.int .u64 0) _ hs ha hr2 p0 p1 (by omega) (by omega) (by omega))
    clear p0 p1 hr2
    refine (try_any _ _ g s (w.heap.size + 1) 104 a _ _ (.int .u64 0) _ _ (callF Tryz.func127 rfl (by decide)) HR2.out P1.out (by omega) hC.out).mono ?_
    rintro e w3 ⟨rfl, hr3, hh3, hf3⟩
    have c1 := hh3.c
    have hF : Fr w w3 (· = g) := (((Fr.refl w (· = g)).alloc _).alloc _).trans hf3 (by intro i hi h; rcases h with h | h; exact h; omega)
    have HR3 := Lib.hid hr3
    have HF := Lib.hid hF
    clear hr3 hh3 hf3 hF
    by_cases h0 : (uintR s a).2.1 = 0
    · have hM : Hid (uintM s a 0 = ((uintR s a).1, (uintR s a).2.2, 0)) := by unfold uintM; rw [if_pos rfl, if_pos h0]; rfl
      rw [if_pos h0, h0] at HR3
      have hd : decide ((uintR s a).2.1 = 0) = true := by simpa using h0
      clear h0
      go_wp2
      go_ret
      rw [hM.out]
      exact ⟨rfl, HR3.out, HF.out⟩
    · have hM : Hid (uintM s a 0 = (0, a, (uintR s a).2.1)) := by unfold uintM; rw [if_pos rfl, if_neg h0]; rfl
      rw [if_neg h0] at HR3
      have hd : decide ((uintR s a).2.1 = 0) = false := by simpa using h0
      clear h0
      go_wp2
      go_ret
      rw [hM.out]
      exact ⟨rfl, HR3.out, HF.out⟩
  · have hM : Hid (uintM s a err = (0, a, err)) := by unfold uintM; rw [if_neg he]; rfl
    go_enter Tryz.func103, Tryz.ntmps103
    go_wp2_with fail
    refine (try_no _ _ g s a err _ ((HR.out.alloc _).alloc _) he).mono ?_
    rintro e w3 ⟨rfl, hb3⟩
    have hF : Fr w w3 (· = g) := (((Fr.refl w (· = g)).alloc _).alloc _).tr (Fr.of_below hb3 _)
    have hr3 := ((HR.out.alloc (.cells #[.pointer (some ⟨g, 0, none⟩)] 122)).alloc (.cells #[.int .u64 0] 104)).fr (Fr.of_below hb3 Nowhere) (fun h => h)
    have HF := Lib.hid hF
    have HR3 := Lib.hid hr3
    clear hb3 hF hr3
    go_wp2
    go_ret
    rw [hM.out]
    exact ⟨rfl, HR3.out, HF.out⟩
end Go.Proofs.YtjflcpkmoamijaaGreatDoor
