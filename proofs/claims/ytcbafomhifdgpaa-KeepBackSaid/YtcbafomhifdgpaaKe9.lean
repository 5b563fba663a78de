/- The worked example (awake), and the law KeepWrites. -/
import Derived.Test.YtcbafomhifdgpaaKe6
import Derived.Test.YtcbafomhifdgpaaKe8
namespace Go.Proofs.Ytcbafomhifdgpaa.Ke
open Go.RowKit Mem Bits
set_option linter.unusedSimpArgs false
set_option linter.unusedVariables false
set_option maxRecDepth 100000

instance (n : Int) : Decidable (isI n) := by unfold isI; infer_instance
def trk0 : Trk := ⟨0, 0, 0, []⟩
def run1 : Run := ⟨2, 0, 0, 0, [2, 5]⟩
def trk1 : Trk := ⟨9, 0, 0, [run1]⟩
theorem trk0_ok : TrkOK trk0 := ⟨by decide, by decide, by decide, by simp [trk0]⟩
theorem trk1_ok : TrkOK trk1 := ⟨by decide, by decide, by decide, fun r hr => by
  obtain rfl : r = run1 := by simpa [trk1] using hr
  exact ⟨by decide, by decide, by decide, by decide, fun x hx => by simp [run1] at hx; rcases hx with rfl | rfl <;> decide⟩⟩
theorem out0 : outT trk0 = ⟨#[0, 0, 0, 0]⟩ ∧ errT trk0 = 0 := by decide +kernel
theorem out1 : outT trk1 = ⟨#[9, 0, 0, 1, 2, 0, 0, 0, 2, 2]⟩ ∧ errT trk1 = 0 := by decide +kernel

set_option maxHeartbeats 2000000 in
theorem awake_calls (w : World) : Calls Try.prog 13 #[] w fun e w' => e = .returned (.bool true) ∧ Mod w w' [] := by
  have W0 := Lib.hid (fun w => write_calls trk0 (.slice none 0 0) trk0_ok (by simp [trk0]) (by simp [trk0]) w (.inl ⟨rfl, none, 0, rfl⟩))
  have W1 := Lib.hid (fun v w h => write_calls trk1 v trk1_ok (by intro r hr; obtain rfl : r = run1 := by simpa [trk1] using hr
                                                                  simp [run1]) (by simp [trk1]) w h)
  rw [out0.1, out0.2] at W0
  rw [out1.1, out1.2] at W1
  go_enter Try.func13, Try.ntmps13
  go_wp2_with fail
  refine (W0.out _).mono ?_
  rintro e w1 ⟨rfl, hm1⟩
  have HM1 := Lib.hid hm1
  clear hm1
  go_wp2_with fail
  have hn := Blk.new w1 #[.int .i64 2, .int .i64 5] 3
  have hr := Blk.new (w1.alloc (.cells #[.int .i64 2, .int .i64 5] 3)) #[.int .i64 2, .int .i64 0, .int .i64 0, .int .u64 0, .slice (some ⟨w1.heap.size, 0, none⟩) 2 2] 73
  rw [World.size_alloc] at hr
  have hn2 := hn.alloc (.cells #[.int .i64 2, .int .i64 0, .int .i64 0, .int .u64 0, .slice (some ⟨w1.heap.size, 0, none⟩) 2 2] 73)
  have HR := Lib.hid (show RunsAt ((w1.alloc (.cells #[.int .i64 2, .int .i64 5] 3)).alloc (.cells #[.int .i64 2, .int .i64 0, .int .i64 0, .int .u64 0, .slice (some ⟨w1.heap.size, 0, none⟩) 2 2] 73)) (.slice (some ⟨w1.heap.size + 1, 0, none⟩) 1 1) trk1.rs from
    .inr ⟨_, 0, 1, rfl, Nat.le_refl _, by unfold maxLen; omega, fun i hi => by
      obtain rfl : i = 0 := by simp [trk1] at hi; exact hi
      refine ⟨hr.cell 0, hr.cell 1, hr.cell 2, hr.cell 3, _, hr.cell 4, .inr ⟨_, 0, 2, rfl, Nat.le_refl _, by unfold maxLen; omega, fun j hj => ?_⟩⟩
      have hj2 : j = 0 ∨ j = 1 := by simp [trk1, run1] at hj; omega
      rcases hj2 with rfl | rfl
      · exact hn2.cell 0
      · exact hn2.cell 1⟩)
  have HM2 := Lib.hid ((HM1.out.alloc (.cells #[.int .i64 2, .int .i64 5] 3)).alloc (.cells #[.int .i64 2, .int .i64 0, .int .i64 0, .int .u64 0, .slice (some ⟨w1.heap.size, 0, none⟩) 2 2] 73))
  clear hn hr hn2
  refine (W1.out _ _ ?_).mono ?_
  · exact HR.out
  rintro e w2 ⟨rfl, hm2⟩
  have HM3 := Lib.hid (HM2.out.trans0 hm2)
  clear hm2
  go_wp2_with fail
  go_ret
  exact ⟨rfl, HM3.out⟩

theorem outT_size (t : Trk) : (outT t).size ≤ 100000 := by
  unfold outT
  split
  · rename_i h
    have h2 := trk_parts h
    have := trkT_size t h2.2.2.2.2 t.rs.length (Nat.le_refl _)
    unfold textT; omega
  · show 0 ≤ _; omega

set_option maxHeartbeats 4000000 in
theorem keepWrites_calls (w : World) (ca : Array Value) (ha : Open.Rd w trkSh ca.toList) :
    Calls Try.prog 3 #[.agg ca] w fun e w' => e = .returned (.bool true) ∧ Below w.heap.size w w' := by
  obtain ⟨t, v, rfl, hr, ht, hlen, hp⟩ := trk_rd ha
  have FC := Lib.hid (fun w h => few_calls t v hlen hp w h)
  have WC := Lib.hid (fun w h => write_calls t v ht hp hlen w h)
  have TC := Lib.hid (fun h w hf => track_calls t v h w hf)
  have RC := Lib.hid (fun v w h => rwrite_calls t v ht hp hlen w h)
  have AW := Lib.hid awake_calls
  have HR := Lib.hid hr
  have HB0 := Lib.hid (Blk.new w #[.int .i64 t.c, .int .i64 t.st, .int .i64 t.lo, v] 24)
  have HM0 := Lib.hid ((Mod.refl w []).alloc (.cells #[.int .i64 t.c, .int .i64 t.st, .int .i64 t.lo, v] 24))
  have hoo : ((outT t).toList == (outT t).toList) = true := by simp
  have hee : (errT t == errT t) = true := by simp
  obtain ⟨sa, cap, rfl, -⟩ := hr.shape
  generalize outT t = O at *
  generalize errT t = E at *
  clear ha hr ht hp
  go_enter Try.func3, Try.ntmps3
  go_wp2_with fail
  refine (FC.out _ ?_).mono ?_
  · exact HR.out.mod HM0.out
  rintro e w1 ⟨b, rfl, hm1, hb⟩
  have HM1 := Lib.hid (HM0.out.trans0 hm1)
  obtain ⟨b0, b1, b2, b3⟩ := Blk4c (HB0.out.mod hm1 (by simp))
  have HBX1 := Lib.hid (HB0.out.mod hm1 (by simp))
  clear hm1 HM0 HB0
  cases b
  · clear hb
    go_wp2_with fail
    refine (AW.out _).mono ?_
    rintro e w2 ⟨rfl, hm2⟩
    have HM2 := Lib.hid (HM1.out.trans0 hm2)
    clear hm2
    go_wp2_with fail
    go_ret
    exact ⟨rfl, HM2.out.below0⟩
  · have hl := hb rfl
    clear hb
    go_wp2_with fail
    refine (WC.out _ ?_).mono ?_
    · exact HR.out.mod HM1.out
    rintro e w2 ⟨rfl, hm2⟩
    have HM2 := Lib.hid (HM1.out.trans0 hm2)
    obtain ⟨b0, b1, b2, b3⟩ := Blk4c (HBX1.out.mod hm2 (by simp))
    clear hm2 HM1
    go_wp2_with fail
    refine (TC.out (by omega) _ ?_).mono ?_
    · exact HR.out.mod HM2.out
    rintro e w3 ⟨v', rfl, hm3, hr3⟩
    have HM3 := Lib.hid (HM2.out.trans0 hm3)
    have HR3 := Lib.hid hr3
    obtain ⟨sa', cap', rfl, -⟩ := hr3.shape
    clear hm3 hr3 HM2
    go_wp2_with fail
    refine (RC.out _ _ ?_).mono ?_
    · exact HR3.out
    rintro e w4 ⟨rfl, hm4⟩
    have HM4 := Lib.hid (HM3.out.trans0 hm4)
    clear hm4 HM3
    go_wp2_with fail
    refine (AW.out _).mono ?_
    rintro e w5 ⟨rfl, hm5⟩
    have HM5 := Lib.hid (HM4.out.trans0 hm5)
    clear hm5
    go_wp2_with fail
    go_ret
    exact ⟨rfl, HM5.out.below0⟩
end Go.Proofs.Ytcbafomhifdgpaa.Ke
