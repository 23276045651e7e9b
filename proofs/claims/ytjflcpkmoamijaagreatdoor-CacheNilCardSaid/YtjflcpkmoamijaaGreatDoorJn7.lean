import Derived.Test.YtjflcpkmoamijaaGreatDoorJn6
namespace Go.Proofs.YtjflcpkmoamijaaGreatDoor
open Go.RowKit
set_option linter.unusedVariables false
set_option linter.unusedSimpArgs false
set_option linter.unnecessarySimpa false

/-- A write that may find the device stopped. -/
def dwr (D : Dev) (i : Nat) (s : ByteArray) : Dev × Bool := if D.lim = true ∧ D.left = 0 then (D, false) else (D.write i s, true)
/-- Writes in a row, to the first that fails. -/
def wrs (D : Dev) : List (Nat × ByteArray) → Dev × Bool
  | [] => (D, true)
  | x :: l => if (dwr D x.1 x.2).2 then wrs (dwr D x.1 x.2).1 l else dwr D x.1 x.2
theorem wrs_append (D : Dev) (a b : List (Nat × ByteArray)) : wrs D (a ++ b) = if (wrs D a).2 then wrs (wrs D a).1 b else wrs D a := by
  induction a generalizing D with
  | nil => simp [wrs]
  | cons x a ih =>
    simp only [List.cons_append, wrs]
    by_cases h : (dwr D x.1 x.2).2 = true
    · simp only [h, if_true, ih]
    · simp [h]
theorem wrs_one (D : Dev) (i : Nat) (s : ByteArray) : wrs D [(i, s)] = dwr D i s := by
  simp only [wrs]
  split
  · rename_i h; rw [← h]
  · rfl
theorem dwr_len (D : Dev) (i : Nat) (s : ByteArray) : (dwr D i s).1.now.length = D.now.length ∧ (dwr D i s).1.log.length ≤ D.log.length + 1 := by
  unfold dwr; split <;> simp [Dev.write]
theorem wrs_len (D : Dev) (l : List (Nat × ByteArray)) : (wrs D l).1.now.length = D.now.length ∧ (wrs D l).1.log.length ≤ D.log.length + l.length := by
  induction l generalizing D with
  | nil => simp [wrs]
  | cons x l ih =>
    have h := dwr_len D x.1 x.2
    simp only [wrs]
    split
    · have := ih (dwr D x.1 x.2).1
      simp only [List.length_cons]; omega
    · simp only [List.length_cons]; omega
def okE (b : Bool) : Int := if b then 0 else 20
/-- What an operation that writes the device leaves. -/
def WsPost (r : DRef) (x : Dev × Bool) (w : World) (e : Ending) (w' : World) : Prop := e = .returned (.int .i64 (okE x.2)) ∧ ∃ r', DevIs w' r' x.1 ∧ DStep w r w' r'
theorem Wr_any (r : DRef) (D : Dev) (i : Nat) (s : ByteArray) (w : World) (h : DevIs w r D) (hi : i < D.now.length) (hs : s.size ≤ 64) (hlog : D.log.length ≤ 1000000000) :
    Calls Tryz.prog 37 #[.pointer (some ⟨r.b, 0, none⟩), .int .i64 i, .string s] w (WsPost r (dwr D i s) w) := by
  unfold dwr
  by_cases hl : D.lim = true ∧ D.left = 0
  · rw [if_pos hl]
    refine (Write_full r D i s w h hi hs hl.1 hl.2).mono ?_
    rintro e w' ⟨rfl, rfl⟩
    exact ⟨rfl, r, h, DStep.of_fr (Fr.refl _ _)⟩
  · rw [if_neg hl]
    refine (Write_any r D i s w h hi hs (fun a b => hl ⟨a, b⟩) hlog).mono ?_
    rintro e w' ⟨rfl, r', h', k'⟩
    exact ⟨rfl, r', h', k'⟩
theorem JIs.step {w w' : World} {B jb db : Nat} {vr : Value} {ep u : Nat} {recs : List ByteArray} {r r' : DRef} {D : Dev} (h : JIs w B jb db vr ep u recs) (d : DevIs w r D) (k : DStep w r w' r') : JIs w' B jb db vr ep u recs :=
  h.fr k.fr (fun _ hi => jfoot_dev h d hi)
def bodyW (a : Nat) (s : ByteArray) : List (Nat × ByteArray) := (List.range (cnt s.size)).map fun i => (a + 1 + i, s.extract (i * 64) (min s.size ((i + 1) * 64)))
theorem bodyW_len (a : Nat) (s : ByteArray) : (bodyW a s).length = cnt s.size := by simp [bodyW]
theorem bodyW_succ (a : Nat) (s : ByteArray) (i : Nat) (h : i < cnt s.size) : (bodyW a s).take (i + 1) = (bodyW a s).take i ++ [(a + 1 + i, s.extract (i * 64) (min s.size ((i + 1) * 64)))] := by
  rw [List.take_succ_eq_append_getElem (by rw [bodyW_len]; exact h)]
  simp [bodyW]
theorem wrs_stop {D : Dev} {l : List (Nat × ByteArray)} (k : Nat) (h : (wrs D (l.take k)).2 = false) : wrs D l = wrs D (l.take k) := by
  have := wrs_append D (l.take k) (l.drop k)
  rw [List.take_append_drop, if_neg (by simp [h])] at this
  exact this
set_option maxHeartbeats 1000000 in
set_option maxRecDepth 100000 in
theorem body_any (r : DRef) (D : Dev) (jb a : Nat) (B : Nat) (vr : Value) (ep u : Nat) (recs : List ByteArray) (s : ByteArray) (w : World) (h : DevIs w r D) (hj : JIs w B jb r.b vr ep u recs)
    (ha : a + 1 + cnt s.size ≤ D.now.length) (hlog : D.log.length ≤ 1000000) :
    Calls Tryz.prog 44 #[.pointer (some ⟨jb, 0, none⟩), .int .i64 a, .string s] w (WsPost r (wrs D (bodyW a s)) w) := by
  have ht := h.ok.top
  have hcnt : cnt s.size ≤ 65536 := by omega
  have hsz : s.size ≤ 4194304 := by unfold cnt at hcnt; omega
  have H := Lib.hid h
  have J := Lib.hid hj
  have HLG := Lib.hid hlog
  clear h hj hlog
  go_enter Tryz.func44, Tryz.ntmps44
  go_wp2_with (refine (cnt_any s.size _ (by omega)).mono ?_; rintro e w2 ⟨rfl, rfl⟩)
  go_loopw [13] (fun v wr => ∃ (i : Nat) (r' : DRef), v = .int .i64 i ∧ i ≤ cnt s.size ∧ (wrs D ((bodyW a s).take i)).2 = true ∧ Hid (DevIs wr r' (wrs D ((bodyW a s).take i)).1) ∧ Hid (DStep w2 r wr r')) (fun v _ => cnt s.size - (intOf v).toNat)
  case atStart => exact ⟨0, r, rfl, by omega, rfl, H.out, DStep.of_fr (Fr.refl _ _)⟩
  case round =>
    obtain ⟨i, r', rfl, hi, hok, hD, hS⟩ := hrel
    by_cases hic : i < cnt s.size
    · have hic' : (i : Int) < (cnt s.size : Int) := by omega
      have hlenD := wrs_len D ((bodyW a s).take i)
      have hsucc := bodyW_succ a s i hic
      have hok' := Lib.hid hok
      have HX : Hid (wrs D ((bodyW a s).take (i + 1)) = dwr (wrs D ((bodyW a s).take i)).1 (a + 1 + i) (s.extract (i * 64) (min s.size ((i + 1) * 64)))) := by
        show _ = _
        rw [hsucc, wrs_append, if_pos hok, wrs_one]
      have HTL : Hid ((bodyW a s).take i ++ (bodyW a s).drop i = bodyW a s) := List.take_append_drop _ _
      have htake : ((bodyW a s).take i).length = i := by rw [List.length_take, bodyW_len]; omega
      rw [htake] at hlenD
      clear hsucc hok htake
      generalize hDi : (wrs D ((bodyW a s).take i)).1 = Di at *
      have HDi := Lib.hid hDi
      clear hDi
      have hrb := hS.out.b
      have hJ := Lib.hid (J.out.step H.out hS.out)
      have c0 := hJ.out.c0
      obtain ⟨lo, hlo⟩ : ∃ lo : Nat, (i : Int) * 64 = lo := ⟨i * 64, by simp⟩
      obtain ⟨h1, hh1⟩ : ∃ h1 : Nat, ((i : Int) + 1) * 64 = h1 := ⟨(i + 1) * 64, by simp⟩
      obtain ⟨hi2, hhi2⟩ : ∃ hi2 : Nat, min (s.size : Int) (h1 : Int) = hi2 := ⟨min s.size h1, by omega⟩
      have hlh : lo ≤ hi2 := by unfold cnt at hic; omega
      have hhs : hi2 ≤ s.size := by omega
      obtain ⟨ai, hai⟩ : ∃ ai : Nat, (a : Int) + 1 + i = ai := ⟨a + 1 + i, by simp⟩
      have HEQ : Hid (dwr Di (a + 1 + i) (s.extract (i * 64) (min s.size ((i + 1) * 64))) = dwr Di ai (s.extract lo hi2)) := by
        show _ = _
        have e1 : a + 1 + i = ai := by omega
        have e2 : i * 64 = lo := by omega
        have e3 : min s.size ((i + 1) * 64) = hi2 := by omega
        rw [e1, e2, e3]
      have hain : ai < Di.now.length := by omega
      have hsl : (s.extract lo hi2).size ≤ 64 := by simp only [ByteArray.size_extract]; omega
      go_wp2_with fail
      rw [← hrb]
      refine (Wr_any r' Di ai (s.extract lo hi2) wr hD.out hain hsl (by have := HLG.out; omega)).mono ?_
      rintro e w3 ⟨rfl, r3, d3, k3⟩
      have K3 := Lib.hid (hS.out.trans k3)
      have D3 := Lib.hid d3
      clear k3 d3 hD hS hJ c0
      rcases hb : (dwr Di ai (s.extract lo hi2)).2 with _ | _
      · have HP : Hid (WsPost r (wrs D (bodyW a s)) w2 (.returned (.int .i64 20)) w3) := by
          have hx : wrs D (bodyW a s) = dwr Di ai (s.extract lo hi2) := by
            rw [wrs_stop (i + 1) (by rw [HX.out, HEQ.out, hb]), HX.out, HEQ.out]
          rw [hx]
          exact ⟨by rw [hb]; rfl, r3, D3.out, K3.out⟩
        clear HX HEQ HTL hok' HDi
        go_wp2_with fail
        simp only [okE, Bool.false_eq_true, if_false]
        go_wp2_with fail
        go_ret
        exact HP.out
      · have HOK : Hid ((wrs D ((bodyW a s).take (i + 1))).2 = true) := by show _ = _; rw [HX.out, HEQ.out, hb]
        have HD3 : Hid (DevIs w3 r3 (wrs D ((bodyW a s).take (i + 1))).1) := by show DevIs _ _ _; rw [HX.out, HEQ.out]; exact D3.out
        clear HX HEQ HTL hok' HDi D3
        simp only [okE, if_true]
        go_wp2_with fail
        go_roundw
        case rel => exact ⟨i + 1, r3, by go_num, by omega, HOK.out, HD3.out, K3.out⟩
        case measure => simp [intOf]; omega
    · have hic' : ¬ (i : Int) < (cnt s.size : Int) := by omega
      obtain rfl : i = cnt s.size := by omega
      have htake : (bodyW a s).take (cnt s.size) = bodyW a s := List.take_of_length_le (by rw [bodyW_len]; exact Nat.le_refl _)
      rw [htake] at hok hD
      clear htake
      have HP : Hid (WsPost r (wrs D (bodyW a s)) w2 (.returned (.int .i64 0)) wr) := by
        refine ⟨by rw [hok]; rfl, r', hD.out, hS.out⟩
      clear hok hD hS
      go_wp2_with fail
      go_ret
      exact HP.out
end Go.Proofs.YtjflcpkmoamijaaGreatDoor
