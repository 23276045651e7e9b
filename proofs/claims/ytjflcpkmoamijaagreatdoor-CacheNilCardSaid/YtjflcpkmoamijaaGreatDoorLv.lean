import Derived.Test.YtjflcpkmoamijaaGreatDoorSk
import Derived.Test.YtjflcpkmoamijaaGreatDoorCp
namespace Go.Proofs.YtjflcpkmoamijaaGreatDoor
open Go.RowKit
set_option linter.unusedVariables false
set_option linter.unusedSimpArgs false
set_option linter.unnecessarySimpa false

def dv0 : Dev := (Dev.fresh 9).format
def cn0 : Cn := ⟨⟨dv0, 0, 0, []⟩, -1, []⟩
def bx : List Bl := [⟨⟨0, 0, 0⟩, ⟨#[120]⟩⟩]
def be : List Bl := [⟨⟨0, 0, 0⟩, ⟨#[]⟩⟩]
theorem lv0 : (parseP dv0).map (fun x => (x.1, x.2.1, x.2.2.length)) = some (0, 0, 0) := by kernel_rfl
theorem lv1 : (putC cn0 0 bx).2 = 0 := by kernel_rfl
def cn1 : Cn := (putC cn0 0 bx).1
theorem lv1T : cn1.T = bx := by kernel_rfl
theorem lv2 : (putC cn1 1 be).2 = 0 := by kernel_rfl
def cn2 : Cn := (putC cn1 1 be).1
theorem lv2T : cn2.T = [] := by kernel_rfl
theorem lv2v : cn2.ver = 1 := by kernel_rfl
theorem lv1v : cn1.ver = 0 := by kernel_rfl
theorem lv3 : ((parseP cn2.J.D).bind fun x => loadL x.2.2 (-1) []) = some (1, []) := by kernel_rfl
theorem lv0' : parseP dv0 = some (0, 0, []) := by kernel_rfl
theorem lvn : cn1.J.u ≤ 100000 ∧ cn1.J.D.log.length ≤ 1000000 ∧ cn1.J.l.length ≤ 1000000 ∧ cn2.J.D.now.length = 9 := ⟨of_decide_eq_true (by kernel_rfl), of_decide_eq_true (by kernel_rfl), of_decide_eq_true (by kernel_rfl), by kernel_rfl⟩
def StartPost (C : Cn) (w : World) (e : Ending) (w' : World) : Prop :=
  ∃ r cb jb mb n vr, e = .returned (.tuple #[.pointer (some ⟨r.b, 0, none⟩), .pointer (some ⟨cb, 0, none⟩), .bool true]) ∧ CIn w' w.heap.size r cb jb mb n vr C ∧ n ≤ 100000000 ∧ Below w.heap.size w w' ∧ ∀ k, cfoot r cb jb mb vr k → w.heap.size ≤ k
set_option maxHeartbeats 1000000 in
set_option maxRecDepth 100000 in
theorem start_any (n : Nat) (w : World) (h5 : 5 ≤ n) (h6 : n ≤ 65536) (hp : parseP (Dev.fresh n).format = some (0, 0, [])) :
    Calls Tryz.prog 26 #[.int .i64 n] w (StartPost ⟨⟨(Dev.fresh n).format, 0, 0, []⟩, -1, []⟩ w) := by
  have HP := Lib.hid hp
  have hlen : (Dev.fresh n).now.length = n := by simp [Dev.fresh]
  have hlenf : (Dev.fresh n).format.now.length = n := by simp [Dev.format, Dev.write, Dev.fresh]
  have hlog : (Dev.fresh n).log.length = 0 := rfl
  have hlim : (Dev.fresh n).lim = false := rfl
  have HN := Lib.hid (New_any n w (by omega) h6)
  clear hp
  generalize (Dev.fresh n) = D0 at *
  go_enter Tryz.func26, Tryz.ntmps26
  go_wp2_with fail
  refine HN.out.mono ?_
  rintro e w2 ⟨r, rfl, d2, b2, hr2⟩
  have D2 := Lib.hid d2
  have B2 := Lib.hid b2
  have R2 := Lib.hid hr2
  clear d2 b2 hr2
  go_wp2_with fail
  refine (CFormat_any r D0 w2 D2.out hlim (by omega) (by omega)).mono ?_
  rintro e w3 ⟨rfl, r3, d3, k3⟩
  have hrb := k3.b
  have hb3 : Below w.heap.size w w3 := B2.out.trans (k3.fr.below B2.out.size (fun i hi => R2.out i hi))
  have R3 : Hid (∀ k, r3.foot k → w.heap.size ≤ k) := by
    intro k hk
    by_cases h : k < w2.heap.size
    · exact R2.out k (k3.sub k h hk)
    · have := B2.out.size; omega
  have D3 := Lib.hid d3
  have B3 := Lib.hid hb3
  clear d3 k3 hb3 R2 D2 B2
  go_wp2_with fail
  rw [← hrb]
  refine (COpen_any r3 D0.format w3 D3.out (by omega)).mono ?_
  rintro e w4 ⟨b4, h4⟩
  rw [HP.out] at h4
  simp only [loadL] at h4
  obtain ⟨cb, jb, mb, k, vr, rfl, hcb, hjb, hmb, hk, hc⟩ := h4
  have C4 : Hid (CIn w4 w.heap.size r3 cb jb mb k vr ⟨⟨D0.format, 0, 0, []⟩, -1, []⟩) := ⟨D3.out.below b4, ⟨hc.c, hc.j.base B3.out.size, hc.m, hc.so, hc.fi⟩⟩
  have B4 := Lib.hid (B3.out.trans (b4.mono B3.out.size))
  have FT : Hid (∀ i, cfoot r3 cb jb mb vr i → w.heap.size ≤ i) := by
    have hs := B3.out.size
    rintro i (hi | rfl | rfl | rfl | hi)
    · exact R3.out i hi
    · omega
    · omega
    · omega
    · have := (own_base' hc.j.hr hi).1; omega
  clear hc b4
  go_wp2_with fail
  go_ret3
  exact ⟨r3, cb, jb, mb, k, vr, by rw [hrb]; rfl, C4.out, hk, B4.out, FT.out⟩
end Go.Proofs.YtjflcpkmoamijaaGreatDoor
