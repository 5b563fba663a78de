/- The worked example (awake); the law SessNil. -/
import Derived.Test.YtcbafomhifdgpaaSs6
namespace Go.Proofs.Ytcbafomhifdgpaa.Ss
open Go.RowKit Mem Si Bits
set_option linter.unusedSimpArgs false
set_option linter.unusedVariables false
set_option maxRecDepth 100000

/-- A call on a table that is none of the first world's. -/
theorem tab_step {w0 w1 w2 : World} {t : Nat} {v : Value} {l l' : List Sn} (hm : Mod w0 w1 []) (ht : w0.heap.size ≤ t) (h : TabAt w1 t v l) (h2 : TabP t v l' w1 w2) : ∃ v', TabAt w2 t v' l' ∧ Mod w0 w2 [] := by
  obtain ⟨v', h3, hm2, _⟩ := h2
  refine ⟨v', h3, hm.trans hm2 (fun r hr => .inr ?_)⟩
  rcases List.mem_cons.1 hr with rfl | hr
  · exact ht
  · have := (h.own r (by simpa using hr)).1; omega

def upB (l : List Sn) : Bool := (List.range l.length).all fun i => (List.range l.length).all fun j => !(decide (i < j)) || decide ((l.getD i (0, 0)).1 < (l.getD j (0, 0)).1)
theorem up_of {l : List Sn} (h : upB l = true) : Up l := by
  intro i j hi hj hij
  unfold upB at h
  rw [List.all_eq_true] at h
  have h1 := h i (by simpa using hi)
  rw [List.all_eq_true] at h1
  have h2 := h1 j (by simpa using hj)
  simpa [hij, hi, hj] using h2
theorem ex1 : openL [] 5 = ([((5, 0) : Sn)], 0) := by decide +kernel
theorem ex2 : mayL [((5, 0) : Sn)] 5 1 = (true, 0) ∧ takeL [((5, 0) : Sn)] 5 1 = [((5, 1) : Sn)] := by decide +kernel
theorem ex3 : mayL [((5, 1) : Sn)] 5 1 = (false, 0) ∧ takeL [((5, 1) : Sn)] 5 1 = [((5, 1) : Sn)] := by decide +kernel
theorem ex4 : mayL [((5, 1) : Sn)] 5 3 = (false, 170) ∧ takeL [((5, 1) : Sn)] 5 3 = [((5, 1) : Sn)] := by decide +kernel
theorem ex5 : mayL [((5, 1) : Sn)] 6 1 = (false, 4) ∧ takeL [((5, 1) : Sn)] 6 1 = [((5, 1) : Sn)] := by decide +kernel
theorem ex6 : txt [((5, 1) : Sn)] = ⟨#[1, 5, 1]⟩ := by decide +kernel
theorem ex7 : txt [] = ⟨#[0]⟩ := by decide +kernel

theorem sb51 : SB [((5, 1) : Sn)] := by
  intro s hs
  obtain rfl : s = (5, 1) := by simpa using hs
  exact ⟨by decide, by decide⟩

set_option maxHeartbeats 2000000 in
theorem awake_calls (w : World) : Calls Try.prog 21 #[] w fun e w' => e = .returned (.bool true) ∧ Mod w w' [] := by
  have hu0 : Up [] := up_of (by decide +kernel)
  have hu1 : Up [((5, 0) : Sn)] := up_of (by decide +kernel)
  have hu2 : Up [((5, 1) : Sn)] := up_of (by decide +kernel)
  have O := Lib.hid (fun t v w h => open_calls t v [] 5 w h (by simp) hu0)
  rw [ex1] at O
  have K1 := Lib.hid (fun t v w h => take_calls t v [((5, 0) : Sn)] 5 1 w h (by simp) hu1)
  rw [ex2.1, ex2.2] at K1
  have K2 := Lib.hid (fun t v w h => take_calls t v [((5, 1) : Sn)] 5 1 w h (by simp) hu2)
  rw [ex3.1, ex3.2] at K2
  have K3 := Lib.hid (fun t v w h => take_calls t v [((5, 1) : Sn)] 5 3 w h (by simp) hu2)
  rw [ex4.1, ex4.2] at K3
  have K4 := Lib.hid (fun t v w h => take_calls t v [((5, 1) : Sn)] 6 1 w h (by simp) hu2)
  rw [ex5.1, ex5.2] at K4
  have X := Lib.hid (fun t v w h => text_calls t v [((5, 1) : Sn)] w h (by simp) sb51)
  rw [ex6] at X
  dsimp only at O K1 K2 K3 K4
  have hq : ((⟨#[1, 5, 1]⟩ : ByteArray).toList == (⟨#[1, 5, 1]⟩ : ByteArray).toList) = true := by simp
  have NW := Lib.hid new_calls
  have NT := Lib.hid (new_tab w)
  have HM0 := Lib.hid ((Mod.refl w []).alloc (.cells #[.slice none 0 0] 101))
  clear hu0 hu1 hu2
  go_enter Try.func21, Try.ntmps21
  go_wp2_with fail
  (with_reducible refine (NW.out _).mono ?_)
  rintro e w1 ⟨rfl, hw1⟩
  rw [← hw1] at NT HM0
  clear hw1
  have hle : w.heap.size ≤ w.heap.size := Nat.le_refl _
  go_wp2_with fail
  (with_reducible refine (O.out _ _ _ NT.out).mono ?_)
  rintro e w2 ⟨rfl, h2⟩
  obtain ⟨v2, T2, M2⟩ := tab_step HM0.out (Nat.le_refl _) NT.out h2
  have HT2 := Lib.hid T2
  have HM2 := Lib.hid M2
  clear h2 T2 M2 NT HM0
  go_wp2_with fail
  (with_reducible refine (K1.out _ _ _ HT2.out).mono ?_)
  rintro e w3 ⟨rfl, h2⟩
  obtain ⟨v3, T2, M2⟩ := tab_step HM2.out (Nat.le_refl _) HT2.out h2
  have HT3 := Lib.hid T2
  have HM3 := Lib.hid M2
  clear h2 T2 M2 HT2 HM2
  go_wp2_with fail
  (with_reducible refine (K2.out _ _ _ HT3.out).mono ?_)
  rintro e w4 ⟨rfl, h2⟩
  obtain ⟨v4, T2, M2⟩ := tab_step HM3.out (Nat.le_refl _) HT3.out h2
  have HT4 := Lib.hid T2
  have HM4 := Lib.hid M2
  clear h2 T2 M2 HT3 HM3
  go_wp2_with fail
  (with_reducible refine (K3.out _ _ _ HT4.out).mono ?_)
  rintro e w5 ⟨rfl, h2⟩
  obtain ⟨v5, T2, M2⟩ := tab_step HM4.out (Nat.le_refl _) HT4.out h2
  have HT5 := Lib.hid T2
  have HM5 := Lib.hid M2
  clear h2 T2 M2 HT4 HM4
  go_wp2_with fail
  (with_reducible refine (K4.out _ _ _ HT5.out).mono ?_)
  rintro e w6 ⟨rfl, h2⟩
  obtain ⟨v6, T2, M2⟩ := tab_step HM5.out (Nat.le_refl _) HT5.out h2
  have HT6 := Lib.hid T2
  have HM6 := Lib.hid M2
  clear h2 T2 M2 HT5 HM5
  go_wp2_with fail
  (with_reducible refine (X.out _ _ _ HT6.out).mono ?_)
  rintro e w7 ⟨rfl, hm7⟩
  have HM7 := Lib.hid (HM6.out.trans0 hm7)
  clear hm7
  go_wp2_with fail
  go_ret
  exact ⟨rfl, HM7.out⟩

set_option maxHeartbeats 2000000 in
theorem sessNil_calls (id : Int) (h1 : (Lit.int .i64 id).wf = true) (seq : Int) (h2 : (Lit.int .i64 seq).wf = true) (w : World) :
    Calls Try.prog 9 #[.int .i64 id, .int .i64 seq] w fun e w' => e = .returned (.bool true) ∧ Below w.heap.size w w' := by
  have AW := Lib.hid awake_calls
  have TN := Lib.hid (fun w => take_nil id seq w)
  have MN := Lib.hid (fun w => may_nil id seq w)
  have ON := Lib.hid (fun w => open_nil id w)
  have CN := Lib.hid (fun w => close_nil id w)
  have AN := Lib.hid all_nil
  have XN := Lib.hid text_nil
  rw [ex7] at XN
  have hq : ((⟨#[0]⟩ : ByteArray).toList == (⟨#[0]⟩ : ByteArray).toList) = true := by simp
  clear h1 h2
  go_enter Try.func9, Try.ntmps9
  go_wp2_with fail
  (with_reducible refine (TN.out _).mono ?_)
  rintro e w1 ⟨rfl, rfl⟩
  go_wp2_with fail
  (with_reducible refine (MN.out _).mono ?_)
  rintro e w1 ⟨rfl, rfl⟩
  go_wp2_with fail
  (with_reducible refine (AW.out _).mono ?_)
  rintro e w1 ⟨rfl, hm1⟩
  have HM1 := Lib.hid hm1
  clear hm1
  go_wp2_with fail
  (with_reducible refine (ON.out _).mono ?_)
  rintro e w2 ⟨rfl, rfl⟩
  go_wp2_with fail
  (with_reducible refine (CN.out _).mono ?_)
  rintro e w2 ⟨rfl, rfl⟩
  go_wp2_with fail
  (with_reducible refine (AN.out _).mono ?_)
  rintro e w2 ⟨rfl, rfl⟩
  go_wp2_with fail
  (with_reducible refine (XN.out _).mono ?_)
  rintro e w2 ⟨rfl, hm2⟩
  have HM2 := Lib.hid (HM1.out.trans0 hm2)
  clear hm2
  go_wp2_with fail
  go_ret
  exact ⟨rfl, HM2.out.below0⟩
end Go.Proofs.Ytcbafomhifdgpaa.Ss
