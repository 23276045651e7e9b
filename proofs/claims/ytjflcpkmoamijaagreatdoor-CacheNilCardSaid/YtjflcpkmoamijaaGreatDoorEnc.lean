import Derived.Test.YtjflcpkmoamijaaGreatDoorBl
namespace Go.Proofs.YtjflcpkmoamijaaGreatDoor
open Go.RowKit
set_option linter.unusedVariables false
set_option linter.unusedSimpArgs false
set_option linter.unnecessarySimpa false

def encOne (s : ByteArray) (x : Bl) : ByteArray := putT (putI (putI (putI s x.t.z) x.t.x) x.t.y) x.s
def encP (ver : Int) (l : List Bl) : ByteArray := l.foldl encOne (app (putI ⟨#[]⟩ ver) (encU l.length))
def Bl.fits (x : Bl) : Prop := InInt x.t.z ∧ InInt x.t.x ∧ InInt x.t.y ∧ x.s.size ≤ 4294967296
theorem putI_size (b : ByteArray) (n : Int) : (putI b n).size ≤ b.size + 10 := by unfold putI; rw [app_size]; have := encU_len (zz n); omega
theorem putT_size (b s : ByteArray) : (putT b s).size ≤ b.size + 10 + s.size := by unfold putT; rw [ByteArray.size_append, app_size]; have := encU_len s.size; omega
theorem encOne_size (s : ByteArray) (x : Bl) (h : x.fits) : (encOne s x).size ≤ s.size + 4294967336 := by
  unfold encOne
  have h1 := putI_size s x.t.z
  have h2 := putI_size (putI s x.t.z) x.t.x
  have h3 := putI_size (putI (putI s x.t.z) x.t.x) x.t.y
  have h4 := putT_size (putI (putI (putI s x.t.z) x.t.x) x.t.y) x.s
  have h5 := h.2.2.2
  omega
theorem encStart_size (ver : Int) (n : Nat) : (app (putI ⟨#[]⟩ ver) (encU n)).size ≤ 20 := by
  rw [app_size]
  have h1 := putI_size ⟨#[]⟩ ver
  have h2 := encU_len n
  have : (⟨#[]⟩ : ByteArray).size = 0 := rfl
  omega
set_option maxHeartbeats 1000000 in
set_option maxRecDepth 100000 in
theorem encode_any (ver : Int) (v : Value) (l : List Bl) (w : World) (h : BlobsAt w v l) (hv : InInt ver) (hl : l.length ≤ 1000) (hf : ∀ x ∈ l, x.fits) :
    Calls Tryz.prog 55 #[.int .i64 ver, v] w fun e w' => e = .returned (.string (encP ver l)) ∧ Below w.heap.size w w' := by
  obtain ⟨ao, c, rfl, hne⟩ := h.sl
  have H := Lib.hid h
  have HNE := Lib.hid hne
  have HV := Lib.hid hv
  have HF := Lib.hid hf
  have hz : IntKind.u64.wrap (l.length : Int) = ((l.length : Nat) : Int) := by rw [wrap_u64']; omega
  have hst := encStart_size ver l.length
  have HE : Hid (encP ver l = l.foldl encOne (app (putI ⟨#[]⟩ ver) (encU l.length))) := rfl
  clear h hne hv hf
  go_enter Tryz.func55, Tryz.ntmps55
  go_wp2_with (first
    | (go_at_call 92; refine (PutInt_any ⟨#[]⟩ ver _ HV.out (by decide)).mono ?_; rintro e w1 ⟨rfl, hb1⟩; have HB1 := Lib.hid hb1; clear hb1)
    | (go_at_call 68; refine (PutUint_any (putI ⟨#[]⟩ ver) l.length _ (by omega) (by have := putI_size ⟨#[]⟩ ver; have : (⟨#[]⟩ : ByteArray).size = 0 := rfl; omega)).mono ?_; rintro e w2 ⟨rfl, hb2⟩; have HB2 := Lib.hid (HB1.out.trans (hb2.mono HB1.out.size)); clear hb2))
  generalize app (putI ⟨#[]⟩ ver) (encU l.length) = s0 at *
  go_loopw [5, 16] (fun sv v wr => ∃ (i : Nat) (s : ByteArray), sv = .string s ∧ v = .int .i64 i ∧ i ≤ l.length ∧ Hid (s = (l.take i).foldl encOne s0) ∧ s.size ≤ 20 + i * 4294967336 ∧ Hid (Below w.heap.size w wr)) (fun _ v _ => l.length - (intOf v).toNat)
  case atStart => exact ⟨0, s0, rfl, rfl, by omega, rfl, by omega, HB2.out⟩
  case round =>
    obtain ⟨i, s, rfl, rfl, hi, hs, hsz, hB⟩ := hrel
    by_cases hic : i < l.length
    · have hic' : (i : Int) < (l.length : Int) := by omega
      obtain ⟨b, o, rfl⟩ := HNE.out (by intro h; subst h; simp at hic)
      have Hr := Lib.hid (H.out.fr (Fr.of_below hB.out Nowhere) (fun _ _ h => h))
      have hx := Hr.out.nth i hic
      have hx4 := range4 hx
      have hfx := HF.out (l[i]) (List.getElem_mem hic)
      have hnext : Hid (encOne s (l[i]) = (l.take (i + 1)).foldl encOne s0) := by
        show _ = _; rw [List.take_succ_eq_append_getElem hic, List.foldl_append, ← hs.out]; rfl
      generalize l[i] = x at *
      obtain ⟨⟨z, x, y⟩, t⟩ := x
      have hnsz := Lib.hid (encOne_size s ⟨⟨z, x, y⟩, t⟩ hfx)
      have HFX := Lib.hid hfx
      obtain ⟨k0, k1, k2, k3⟩ := hx4
      simp only at k0 k1 k2 k3
      have hS0 : (wr.alloc (.cells #[.int .i64 z, .int .i64 x, .int .i64 y, .string t] 93)).rangeAt wr.heap.size 0 (Bl.mk ⟨z, x, y⟩ t).cells := range_new wr ⟨⟨z, x, y⟩, t⟩
      have hB1 : Below w.heap.size w (wr.alloc (.cells #[.int .i64 z, .int .i64 x, .int .i64 y, .string t] 93)) := hB.out.alloc hB.out.size _
      have HS0 := Lib.hid hS0
      have HB4 := Lib.hid hB1
      clear hx hfx hS0 hB1
      go_wp2_with fail
      clear k0 k1 k2 k3 Hr hB
      generalize wr.alloc (.cells #[.int .i64 z, .int .i64 x, .int .i64 y, .string t] 93) = w1 at *
      have hS := range4 (show w1.drew.rangeAt wr.heap.size 0 (Bl.mk ⟨z, x, y⟩ t).cells from HS0.out)
      simp only [Nat.zero_add] at hS
      refine region_seq (fun w' => w'.cell? ⟨wr.heap.size, 0, none⟩ = some (.int .i64 z) ∧ w'.cell? ⟨wr.heap.size, 1, none⟩ = some (.int .i64 x) ∧ w'.cell? ⟨wr.heap.size, 2, none⟩ = some (.int .i64 y) ∧ w'.cell? ⟨wr.heap.size, 3, none⟩ = some (.string t)) []
        [(.p, 0), (.p, 1), (.p, 2), (.q, 3), (.p, 5), (.p, 6), (.q, 7), (.p, 9), (.p, 10), (.q, 11), (.l, 4), (.l, 8), (.l, 12), (.p, 13)] (by kernel_rfl) (by kernel_rfl) (by kernel_rfl) (by kernel_rfl) (fun d v c a w h => by cases d <;> exact h) ?_
      (refine seq_p (N := some 20) rfl rfl (by rfl) ?_ (fun w' => ?_) ?_
       rotate_left
       · go_simp
         with_reducible rfl
       simp only [Act.put, List.setIfInBounds_toArray, List.set_cons_zero, List.set_cons_succ])
      (refine seq_p (N := some 21) rfl rfl (by rfl) ?_ (fun w' => ?_) ?_
       rotate_left
       · go_simp
         with_reducible rfl
       simp only [Act.put, List.setIfInBounds_toArray, List.set_cons_zero, List.set_cons_succ])
      (refine seq_p (N := some 22) rfl rfl (by rfl) ?_ (fun w' => ?_) ?_
       rotate_left
       · go_simp
         with_reducible rfl
       simp only [Act.put, List.setIfInBounds_toArray, List.set_cons_zero, List.set_cons_succ])
      (refine seq_q (N := some 23) rfl rfl (by rfl) ?_ ?_ hS ?_
       rotate_left
       · rintro w' ⟨s1, s2, s3, s4⟩
         go_simp
         with_reducible rfl
       simp only [Act.put, List.setIfInBounds_toArray, List.set_cons_zero, List.set_cons_succ])
      (refine seq_p (N := some 25) rfl rfl (by rfl) ?_ (fun w' => ?_) ?_
       rotate_left
       · go_simp
         with_reducible rfl
       simp only [Act.put, List.setIfInBounds_toArray, List.set_cons_zero, List.set_cons_succ])
      (refine seq_p (N := some 26) rfl rfl (by rfl) ?_ (fun w' => ?_) ?_
       rotate_left
       · go_simp
         with_reducible rfl
       simp only [Act.put, List.setIfInBounds_toArray, List.set_cons_zero, List.set_cons_succ])
      (refine seq_q (N := some 27) rfl rfl (by rfl) ?_ ?_ hS ?_
       rotate_left
       · rintro w' ⟨s1, s2, s3, s4⟩
         go_simp
         with_reducible rfl
       simp only [Act.put, List.setIfInBounds_toArray, List.set_cons_zero, List.set_cons_succ])
      (refine seq_p (N := some 29) rfl rfl (by rfl) ?_ (fun w' => ?_) ?_
       rotate_left
       · go_simp
         with_reducible rfl
       simp only [Act.put, List.setIfInBounds_toArray, List.set_cons_zero, List.set_cons_succ])
      (refine seq_p (N := some 30) rfl rfl (by rfl) ?_ (fun w' => ?_) ?_
       rotate_left
       · go_simp
         with_reducible rfl
       simp only [Act.put, List.setIfInBounds_toArray, List.set_cons_zero, List.set_cons_succ])
      (refine seq_q (N := some 31) rfl rfl (by rfl) ?_ ?_ hS ?_
       rotate_left
       · rintro w' ⟨s1, s2, s3, s4⟩
         go_simp
         with_reducible rfl
       simp only [Act.put, List.setIfInBounds_toArray, List.set_cons_zero, List.set_cons_succ])
      refine seq_l rfl (by rfl) (wp_cl (N := some 24) (f := 92) (vs := #[.string s, .int .i64 z]) rfl rfl (by simp [Act.eval]) (callF Tryz.func92 rfl (by decide) _ _) ?_)
      refine (PutInt_any s z _ HFX.out.1 (by omega)).mono ?_
      rintro e w5 ⟨rfl, bb⟩
      have HB5 := Lib.hid (HB4.out.drew.trans (bb.mono HB4.out.drew.size))
      have Rw5 := Lib.hid (rangeAt_fr (show w1.drew.rangeAt wr.heap.size 0 (Bl.mk ⟨z, x, y⟩ t).cells from HS0.out) (Fr.of_below bb Nowhere) (fun h => h))
      clear bb
      refine ⟨_, rfl, ?_⟩
      simp only [Act.put, List.setIfInBounds_toArray, List.set_cons_zero, List.set_cons_succ]
      refine ⟨fun _ => by have := range4 Rw5.out; simpa only [Nat.zero_add] using this, ?_⟩
      refine seq_l rfl (by rfl) (wp_cl (N := some 28) (f := 92) (vs := #[.string (putI s z), .int .i64 x]) rfl rfl (by simp [Act.eval]) (callF Tryz.func92 rfl (by decide) _ _) ?_)
      refine (PutInt_any (putI s z) x _ HFX.out.2.1 (by have := putI_size s z; omega)).mono ?_
      rintro e w6 ⟨rfl, bb⟩
      have HB6 := Lib.hid (HB5.out.trans (bb.mono HB5.out.size))
      have Rw6 := Lib.hid (rangeAt_fr (Rw5.out) (Fr.of_below bb Nowhere) (fun h => h))
      clear bb
      refine ⟨_, rfl, ?_⟩
      simp only [Act.put, List.setIfInBounds_toArray, List.set_cons_zero, List.set_cons_succ]
      refine ⟨fun _ => by have := range4 Rw6.out; simpa only [Nat.zero_add] using this, ?_⟩
      refine seq_l rfl (by rfl) (wp_cl (N := some 32) (f := 92) (vs := #[.string (putI (putI s z) x), .int .i64 y]) rfl rfl (by simp [Act.eval]) (callF Tryz.func92 rfl (by decide) _ _) ?_)
      refine (PutInt_any (putI (putI s z) x) y _ HFX.out.2.2.1 (by have := putI_size s z; have := putI_size (putI s z) x; omega)).mono ?_
      rintro e w7 ⟨rfl, bb⟩
      have HB7 := Lib.hid (HB6.out.trans (bb.mono HB6.out.size))
      have Rw7 := Lib.hid (rangeAt_fr (Rw6.out) (Fr.of_below bb Nowhere) (fun h => h))
      clear bb
      refine ⟨_, rfl, ?_⟩
      simp only [Act.put, List.setIfInBounds_toArray, List.set_cons_zero, List.set_cons_succ]
      refine ⟨fun _ => by have := range4 Rw7.out; simpa only [Nat.zero_add] using this, ?_⟩
      (refine seq_p (N := some 5) rfl rfl (by rfl) ?_ (fun w' => ?_) ?_
       rotate_left
       · go_simp
         with_reducible rfl
       simp only [Act.put, List.setIfInBounds_toArray, List.set_cons_zero, List.set_cons_succ])
      refine seq_nil ?_
      have k3 : w7.cell? ⟨wr.heap.size, 3, none⟩ = some (.string t) := by have := (range4 Rw7.out).2.2.2; simpa only [Nat.zero_add] using this
      have hts := HFX.out.2.2.2
      simp only at hts
      go_wp2_with fail
      refine (PutText_any (putI (putI (putI s z) x) y) t _ (by omega) (by have := putI_size s z; have := putI_size (putI s z) x; have := putI_size (putI (putI s z) x) y; omega)).mono ?_
      rintro e w8 ⟨rfl, bb⟩
      have HB8 := Lib.hid (HB7.out.trans (bb.mono HB7.out.size))
      clear bb
      go_wp2_with fail
      go_roundw
      case rel => exact ⟨i + 1, _, rfl, by go_num, by omega, hnext.out, by have := hnsz.out; unfold encOne at this; simp only at this; omega, HB8.out⟩
      case measure => simp [intOf]; omega
    · have hic' : ¬ (i : Int) < (l.length : Int) := by omega
      have hfin : Hid (s = encP ver l) := by
        show s = _
        rw [HE.out, hs.out, List.take_of_length_le (by omega)]
      go_wp2_with fail
      go_ret
      rw [hfin.out]
      exact ⟨rfl, hB.out⟩
end Go.Proofs.YtjflcpkmoamijaaGreatDoor
