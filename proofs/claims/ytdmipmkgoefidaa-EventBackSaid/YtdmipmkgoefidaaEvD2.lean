/- Reading an event: a value. -/
import Derived.Test.YtdmipmkgoefidaaEvD1
namespace Go.Proofs.Ytdmipmkgoefidaa.Ev
open Go.RowKit Mem Bits EvH
set_option linter.unusedSimpArgs false
set_option linter.unusedVariables false
set_option maxRecDepth 100000

abbrev valA (v : Val) : Value := valV v.k v.n v.f v.s

set_option maxHeartbeats 2000000 in
theorem read_calls (g : Nat) (s : ByteArray) (e0 : Int) (w : World) (hs : s.size ≤ 140737488355328) (hb : TapeAt w g s e0) :
    Calls Try.prog 44 #[.pointer (some ⟨g, 0, none⟩)] w fun e w' => e = .returned (valA (valT (s, e0)).1) ∧ Mod w w' [g] ∧ TapeAt w' g (valT (s, e0)).2.1 (valT (s, e0)).2.2 := by
  have hg : g < w.heap.size := Blk.lt hb
  have HB := Lib.hid ((Blk.alloc hb (.cells #[.int .i64 0, .int .i64 0, .float .f64 0, .string ⟨#[]⟩] 42) : TapeAt (w.alloc (.cells #[.int .i64 0, .int .i64 0, .float .f64 0, .string ⟨#[]⟩] 42)) g s e0))
  have HR := Lib.hid (Blk.new w #[.int .i64 0, .int .i64 0, .float .f64 0, .string ⟨#[]⟩] 42)
  have HM0 := Lib.hid ((Mod.refl w [g]).alloc (.cells #[.int .i64 0, .int .i64 0, .float .f64 0, .string ⟨#[]⟩] 42))
  have NC := Lib.hid (fun w hb => number_calls g s e0 3 (by decide) w hs hb)
  have hbd := limI_bd (tN s e0) 3
  have hv : valT (s, e0) = if limI (tN s e0) 3 = 1 then (⟨1, unfoldI (tN (tS s e0) (tE s e0)), 0, ⟨#[]⟩⟩, tpN (tS s e0, tE s e0))
    else if limI (tN s e0) 3 = 2 then (⟨2, 0, (realR (tS s e0) (tE s e0)).1, ⟨#[]⟩⟩, tpR (tS s e0, tE s e0))
    else if limI (tN s e0) 3 = 3 then (⟨3, 0, 0, (textR (tS s e0) (tE s e0) 64).1⟩, tpT (tS s e0, tE s e0) 64)
    else (⟨limI (tN s e0) 3, 0, 0, ⟨#[]⟩⟩, (tS s e0, tE s e0)) := rfl
  have hz := tS_size s e0
  have C1 := Lib.hid (fun w hb => Int_calls g (tS s e0) (tE s e0) w (by omega) hb)
  have C2 := Lib.hid (fun w hb => Real_calls g (tS s e0) (tE s e0) w (by omega) hb)
  have C3 := Lib.hid (fun w hb => Text_calls g (tS s e0) (tE s e0) 64 (by decide) (by decide) w (by omega) hb)
  generalize valT (s, e0) = V at *
  generalize limI (tN s e0) 3 = k at *
  generalize tS s e0 = s1 at *
  generalize tE s e0 = e1 at *
  have HV := Lib.hid hv
  clear hb hv
  rcases (by omega : k = 1 ∨ k = 2 ∨ k = 3 ∨ k = -1 ∨ k = 0) with rfl | rfl | rfl | rfl | rfl
  · have HV1 : Hid (V = (⟨1, unfoldI (tN s1 e1), 0, ⟨#[]⟩⟩, (tS s1 e1, tE s1 e1))) := Lib.hid (by rw [HV.out]; rfl)
    generalize unfoldI (tN s1 e1) = x at *
    go_enter Try.func44, Try.ntmps44
    go_wp2_with fail
    refine (NC.out _ HB.out).mono ?_
    rintro e w1 ⟨rfl, hm1, hb1⟩
    have HM1 := Lib.hid (HM0.out.trans hm1 (by simp))
    have HR1 := Lib.hid (HR.out.mod hm1 (by simp; omega))
    have HB1 := Lib.hid (Blk.alloc hb1 (.cells #[.int .i64 1, .int .i64 0, .float .f64 0, .string ⟨#[]⟩] 42))
    have hg1 : g < w1.heap.size := Blk.lt hb1
    have hr1 := HR1.out.lt
    clear hm1 hb1
    go_wp2_with fail
    refine (C1.out _ HB1.out).mono ?_
    rintro e w2 ⟨rfl, hm2, hb2⟩
    have hv2 := (Blk.new w1 #[.int .i64 1, .int .i64 0, .float .f64 0, .string ⟨#[]⟩] 42).mod hm2 (by simp; omega)
    have hr2 := (HR1.out.alloc (.cells #[.int .i64 1, .int .i64 0, .float .f64 0, .string ⟨#[]⟩] 42)).mod hm2 (by simp; omega)
    have HM2 := Lib.hid ((HM1.out.alloc (.cells #[.int .i64 1, .int .i64 0, .float .f64 0, .string ⟨#[]⟩] 42)).trans hm2 (by simp))
    have HB2 := Lib.hid (show Blk w2 g #[.string _, .int .i64 _] 103 from hb2)
    obtain ⟨⟨p0, p1, p2, p3⟩, f0, f1, f2, f3⟩ := Blk4g hv2
    obtain ⟨⟨q0, q1, q2, q3⟩, h0, h1, h2, h3⟩ := Blk4g hr2
    have hne : w.heap.size ≠ w1.heap.size := by omega
    clear hm2 hb2 hv2 hr2
    go_wp2_with fail
    refine bodyPost_ret (v := valV 1 x 0 ⟨#[]⟩) (by simp [results, Try.results44, go_sem, p0, p1, p2, p3, q0, q1, q2, q3, hne]) rfl ⟨by rw [HV1.out] <;> rfl, ?_, ?_⟩
    · repeat' (first | (with_reducible exact HM2.out) | (with_reducible refine Mod.setCell ?_ (.inr (by dsimp only; omega)) _) | (with_reducible refine Mod.alloc ?_ _))
    · rw [HV1.out]
      unfold TapeAt
      repeat' (first | (with_reducible exact HB2.out) | (with_reducible refine Blk.far ?_ (by dsimp only; omega) _) | (with_reducible refine Blk.alloc ?_ _))
  · have HV1 : Hid (V = (⟨2, 0, (realR s1 e1).1, ⟨#[]⟩⟩, tpR (s1, e1))) := Lib.hid (by rw [HV.out]; rfl)
    have ez : tpR (s1, e1) = ((realR s1 e1).2.1, (realR s1 e1).2.2) := rfl
    rw [ez] at HV1
    clear ez
    generalize realR s1 e1 = X at *
    obtain ⟨x, x1, x2⟩ := X
    dsimp only at HV1 C2
    go_enter Try.func44, Try.ntmps44
    go_wp2_with fail
    refine (NC.out _ HB.out).mono ?_
    rintro e w1 ⟨rfl, hm1, hb1⟩
    have HM1 := Lib.hid (HM0.out.trans hm1 (by simp))
    have HR1 := Lib.hid (HR.out.mod hm1 (by simp; omega))
    have HB1 := Lib.hid (Blk.alloc hb1 (.cells #[.int .i64 2, .int .i64 0, .float .f64 0, .string ⟨#[]⟩] 42))
    have hg1 : g < w1.heap.size := Blk.lt hb1
    have hr1 := HR1.out.lt
    clear hm1 hb1
    go_wp2_with fail
    refine (C2.out _ HB1.out).mono ?_
    rintro e w2 ⟨rfl, hm2, hb2⟩
    have hv2 := (Blk.new w1 #[.int .i64 2, .int .i64 0, .float .f64 0, .string ⟨#[]⟩] 42).mod hm2 (by simp; omega)
    have hr2 := (HR1.out.alloc (.cells #[.int .i64 2, .int .i64 0, .float .f64 0, .string ⟨#[]⟩] 42)).mod hm2 (by simp; omega)
    have HM2 := Lib.hid ((HM1.out.alloc (.cells #[.int .i64 2, .int .i64 0, .float .f64 0, .string ⟨#[]⟩] 42)).trans hm2 (by simp))
    have HB2 := Lib.hid (show Blk w2 g #[.string _, .int .i64 _] 103 from hb2)
    obtain ⟨⟨p0, p1, p2, p3⟩, f0, f1, f2, f3⟩ := Blk4g hv2
    obtain ⟨⟨q0, q1, q2, q3⟩, h0, h1, h2, h3⟩ := Blk4g hr2
    have hne : w.heap.size ≠ w1.heap.size := by omega
    clear hm2 hb2 hv2 hr2
    go_wp2_with fail
    refine bodyPost_ret (v := valV 2 0 x ⟨#[]⟩) (by simp [results, Try.results44, go_sem, p0, p1, p2, p3, q0, q1, q2, q3, hne]) rfl ⟨by rw [HV1.out] <;> rfl, ?_, ?_⟩
    · repeat' (first | (with_reducible exact HM2.out) | (with_reducible refine Mod.setCell ?_ (.inr (by dsimp only; omega)) _) | (with_reducible refine Mod.alloc ?_ _))
    · rw [HV1.out]
      unfold TapeAt
      repeat' (first | (with_reducible exact HB2.out) | (with_reducible refine Blk.far ?_ (by dsimp only; omega) _) | (with_reducible refine Blk.alloc ?_ _))
  · have HV1 : Hid (V = (⟨3, 0, 0, (textR s1 e1 64).1⟩, tpT (s1, e1) 64)) := Lib.hid (by rw [HV.out]; rfl)
    have ez : tpT (s1, e1) 64 = ((textR s1 e1 64).2.1, (textR s1 e1 64).2.2) := rfl
    rw [ez] at HV1
    clear ez
    generalize textR s1 e1 64 = X at *
    obtain ⟨x, x1, x2⟩ := X
    dsimp only at HV1 C3
    go_enter Try.func44, Try.ntmps44
    go_wp2_with fail
    refine (NC.out _ HB.out).mono ?_
    rintro e w1 ⟨rfl, hm1, hb1⟩
    have HM1 := Lib.hid (HM0.out.trans hm1 (by simp))
    have HR1 := Lib.hid (HR.out.mod hm1 (by simp; omega))
    have HB1 := Lib.hid (Blk.alloc hb1 (.cells #[.int .i64 3, .int .i64 0, .float .f64 0, .string ⟨#[]⟩] 42))
    have hg1 : g < w1.heap.size := Blk.lt hb1
    have hr1 := HR1.out.lt
    clear hm1 hb1
    go_wp2_with fail
    refine (C3.out _ HB1.out).mono ?_
    rintro e w2 ⟨rfl, hm2, hb2⟩
    have hv2 := (Blk.new w1 #[.int .i64 3, .int .i64 0, .float .f64 0, .string ⟨#[]⟩] 42).mod hm2 (by simp; omega)
    have hr2 := (HR1.out.alloc (.cells #[.int .i64 3, .int .i64 0, .float .f64 0, .string ⟨#[]⟩] 42)).mod hm2 (by simp; omega)
    have HM2 := Lib.hid ((HM1.out.alloc (.cells #[.int .i64 3, .int .i64 0, .float .f64 0, .string ⟨#[]⟩] 42)).trans hm2 (by simp))
    have HB2 := Lib.hid (show Blk w2 g #[.string _, .int .i64 _] 103 from hb2)
    obtain ⟨⟨p0, p1, p2, p3⟩, f0, f1, f2, f3⟩ := Blk4g hv2
    obtain ⟨⟨q0, q1, q2, q3⟩, h0, h1, h2, h3⟩ := Blk4g hr2
    have hne : w.heap.size ≠ w1.heap.size := by omega
    clear hm2 hb2 hv2 hr2
    go_wp2_with fail
    refine bodyPost_ret (v := valV 3 0 0 x) (by simp [results, Try.results44, go_sem, p0, p1, p2, p3, q0, q1, q2, q3, hne]) rfl ⟨by rw [HV1.out] <;> rfl, ?_, ?_⟩
    · repeat' (first | (with_reducible exact HM2.out) | (with_reducible refine Mod.setCell ?_ (.inr (by dsimp only; omega)) _) | (with_reducible refine Mod.alloc ?_ _))
    · rw [HV1.out]
      unfold TapeAt
      repeat' (first | (with_reducible exact HB2.out) | (with_reducible refine Blk.far ?_ (by dsimp only; omega) _) | (with_reducible refine Blk.alloc ?_ _))
  · have HV1 : Hid (V = (⟨-1, 0, 0, ⟨#[]⟩⟩, (s1, e1))) := Lib.hid (by rw [HV.out]; rfl)
    go_enter Try.func44, Try.ntmps44
    go_wp2_with fail
    refine (NC.out _ HB.out).mono ?_
    rintro e w1 ⟨rfl, hm1, hb1⟩
    have HM1 := Lib.hid (HM0.out.trans hm1 (by simp))
    have hr1q := HR.out.mod hm1 (by simp; omega)
    have HB1 := Lib.hid (show Blk w1 g #[.string _, .int .i64 _] 103 from hb1)
    have hg1 : g < w1.heap.size := Blk.lt hb1
    have hr1 := hr1q.lt
    obtain ⟨⟨q0, q1, q2, q3⟩, h0, h1, h2, h3⟩ := Blk4g hr1q
    have hne : w.heap.size ≠ w1.heap.size := by omega
    clear hm1 hb1 hr1q
    go_wp2_with fail
    refine bodyPost_ret (v := valV (-1) 0 0 ⟨#[]⟩) (by simp [results, Try.results44, go_sem, hr1, q0, q1, q2, q3, hne]) rfl ⟨by rw [HV1.out] <;> rfl, ?_, ?_⟩
    · repeat' (first | (with_reducible exact HM1.out) | (with_reducible refine Mod.setCell ?_ (.inr (by dsimp only; omega)) _) | (with_reducible refine Mod.alloc ?_ _))
    · rw [HV1.out]
      unfold TapeAt
      repeat' (first | (with_reducible exact HB1.out) | (with_reducible refine Blk.far ?_ (by dsimp only; omega) _) | (with_reducible refine Blk.alloc ?_ _))
  · have HV1 : Hid (V = (⟨0, 0, 0, ⟨#[]⟩⟩, (s1, e1))) := Lib.hid (by rw [HV.out]; rfl)
    go_enter Try.func44, Try.ntmps44
    go_wp2_with fail
    refine (NC.out _ HB.out).mono ?_
    rintro e w1 ⟨rfl, hm1, hb1⟩
    have HM1 := Lib.hid (HM0.out.trans hm1 (by simp))
    have hr1q := HR.out.mod hm1 (by simp; omega)
    have HB1 := Lib.hid (show Blk w1 g #[.string _, .int .i64 _] 103 from hb1)
    have hg1 : g < w1.heap.size := Blk.lt hb1
    have hr1 := hr1q.lt
    obtain ⟨⟨q0, q1, q2, q3⟩, h0, h1, h2, h3⟩ := Blk4g hr1q
    have hne : w.heap.size ≠ w1.heap.size := by omega
    clear hm1 hb1 hr1q
    go_wp2_with fail
    refine bodyPost_ret (v := valV (0) 0 0 ⟨#[]⟩) (by simp [results, Try.results44, go_sem, hr1, q0, q1, q2, q3, hne]) rfl ⟨by rw [HV1.out] <;> rfl, ?_, ?_⟩
    · repeat' (first | (with_reducible exact HM1.out) | (with_reducible refine Mod.setCell ?_ (.inr (by dsimp only; omega)) _) | (with_reducible refine Mod.alloc ?_ _))
    · rw [HV1.out]
      unfold TapeAt
      repeat' (first | (with_reducible exact HB1.out) | (with_reducible refine Blk.far ?_ (by dsimp only; omega) _) | (with_reducible refine Blk.alloc ?_ _))
end Go.Proofs.Ytdmipmkgoefidaa.Ev
