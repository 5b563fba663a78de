/- The contract of one call of a tape, and of the document's (BitsReads). -/
import Derived.Test.YtfabmgdfapioiaaBitsA
import Derived.Test.YtfabmgdfapioiaaRef6
import Derived.Test.YtfabmgdfapioiaaFx
namespace Go.Proofs.Ytfabmgdfapioiaa.Bits
open Go.RowKit Mem
set_option linter.unusedSimpArgs false
set_option linter.unusedVariables false
set_option maxRecDepth 100000
attribute [local go_sem ↓] Go.wp_at_zero Go.wp_at_succ
/-- What is left, and the error, behind a call. -/
def behS (k : Nat) (s : ByteArray) (e most : Int) : ByteArray :=
  if k % 5 = 0 then tS s e else if k % 5 = 1 then tS s e else if k % 5 = 2 then (realR s e).2.1 else if k % 5 = 3 then (textR s e most).2.1 else (flagR s e).2.1
def behE (k : Nat) (s : ByteArray) (e most : Int) : Int :=
  if k % 5 = 0 then tE s e else if k % 5 = 1 then tE s e else if k % 5 = 2 then (realR s e).2.2 else if k % 5 = 3 then (textR s e most).2.2 else (flagR s e).2.2

def resA (S : ByteArray) (E : Int) : Nat → Array Value
  | 0 => #[.string ⟨#[]⟩, .int .i64 0]
  | _ + 1 => #[.string S, .int .i64 E]
structure RdC (w : World) (g : Nat) (S : ByteArray) (E : Int) (m : Nat) (w' : World) : Prop where
  md : Mod w w' [g]
  t : TapeAt w' g S E
  x : Blk w' w.heap.size #[.string S, .int .i64 E] 26
  y : Blk w' (w.heap.size + 1) (resA S E m) 26

theorem RdC.step {w w' w'' : World} {g : Nat} {S : ByteArray} {E : Int} {m : Nat} (h : RdC w g S E m w') (hm : Mod w' w'' []) (hg : g < w.heap.size) : RdC w g S E m w'' :=
  ⟨h.md.trans0 hm, Blk.mod h.t hm (by simp), h.x.mod hm (by simp), h.y.mod hm (by simp)⟩
theorem RdC.put {w w' : World} {g : Nat} {S : ByteArray} {E : Int} (h : RdC w g S E 0 w') (hg : g < w.heap.size) : RdC w g S E 1 ((w'.setCell ⟨w.heap.size + 1, 0, none⟩ (.string S)).setCell ⟨w.heap.size + 1, 1, none⟩ (.int .i64 E)) :=
  ⟨(h.md.setCell (.inr (Nat.le_succ _)) _).setCell (.inr (Nat.le_succ _)) _, (Blk.far h.t (by show g ≠ w.heap.size + 1; omega) _).far (by show g ≠ w.heap.size + 1; omega) _,
    (h.x.far (by show w.heap.size ≠ w.heap.size + 1; omega) _).far (by show w.heap.size ≠ w.heap.size + 1; omega) _, (h.y.set 0 _).set 1 _⟩

set_option maxHeartbeats 4000000 in
theorem read_calls (g : Nat) (s : ByteArray) (e0 : Int) (k : Nat) (hk : k < 256) (most : Int) (m1 : -9223372036854775808 ≤ most) (m2 : most ≤ 9223372036854775807) (w : World) (hs : s.size ≤ 140737488355328) (hb : TapeAt w g s e0) :
    Calls Try.prog 10 #[.pointer (some ⟨g, 0, none⟩), tapeV s e0, .int .i64 k, .int .i64 most] w fun e w' => e = .returned (.tuple #[tapeV (behS k s e0 most) (behE k s e0 most), .bool true]) ∧ Mod w w' [g] ∧ TapeAt w' g (behS k s e0 most) (behE k s e0 most) := by
  have HB0 := Lib.hid ((Blk.new w #[.string s, .int .i64 e0] 26).alloc (.cells #[.string ⟨#[]⟩, .int .i64 0] 26))
  have hb1 := Blk.new (w.alloc (.cells #[.string s, .int .i64 e0] 26)) #[.string ⟨#[]⟩, .int .i64 0] 26
  rw [World.size_alloc] at hb1
  have HB1 := Lib.hid hb1
  have HM0 := Lib.hid (((Mod.refl w []).alloc (.cells #[.string s, .int .i64 e0] 26)).alloc (.cells #[.string ⟨#[]⟩, .int .i64 0] 26))
  have HT0 := Lib.hid ((Blk.alloc hb (.cells #[.string s, .int .i64 e0] 26)).alloc (.cells #[.string ⟨#[]⟩, .int .i64 0] 26))
  have hgl := hb.lt
  have hne : g ≠ w.heap.size := by omega
  clear hb1 hb
  have hr : k % 5 = 0 ∨ k % 5 = 1 ∨ k % 5 = 2 ∨ k % 5 = 3 ∨ k % 5 = 4 := by omega
  rcases hr with h | h | h | h | h
  · have e1 : behS k s e0 most = tS s e0 := by unfold behS;  rw [if_pos h]
    have e2 : behE k s e0 most = tE s e0 := by unfold behE;  rw [if_pos h]
    rw [e1, e2]
    have h5 : (k : Int) % 5 = 0 := by omega
    have R1 := Lib.hid (fun w => rNum_calls s e0 w hs)
    have T1 := Lib.hid (fun w hb => Num_calls g s e0 w hs hb)
    generalize tS s e0 = S at *
    generalize tE s e0 = E at *
    generalize tN s e0 = n at *
    clear e1 e2 h
    go_enter Try.func10, Try.ntmps10
    go_wp2_with fail
    refine (R1.out _).mono ?_
    rintro e w1 ⟨rfl, hm1⟩
    obtain ⟨b0, b1, b2, b3⟩ := Blk2 (HB0.out.mod hm1 (by simp))
    have HB01 := Lib.hid (HB0.out.mod hm1 (by simp))
    have HB11 := Lib.hid (HB1.out.mod hm1 (by simp))
    have HM1 := Lib.hid (HM0.out.trans0 hm1)
    have HT1 := Lib.hid (HT0.out.mod hm1 (by simp))
    have hz1 : w.heap.size < w1.heap.size := by have := hm1.size; simp at this; omega
    have hz2 : w.heap.size + 1 < w1.heap.size := by have := hm1.size; simp at this; omega
    clear hm1
    go_wp2_with fail
    refine (T1.out _ ?_).mono ?_
    · exact ((HT1.out.far (p := ⟨w.heap.size, 0, none⟩) hne _).far (p := ⟨w.heap.size, 1, none⟩) hne _).alloc _
    rintro e w2 ⟨rfl, hm2, hb2⟩
    have HX := Lib.hid ((((HB01.out.set 0 (.string S)).set 1 (.int .i64 E)).alloc (.cells #[.string S, .int .i64 E] 26)).mod hm2 (by simp; exact Ne.symm hne))
    have HY := Lib.hid ((((HB11.out.far (p := ⟨w.heap.size, 0, none⟩) (by simp) (.string S)).far (p := ⟨w.heap.size, 1, none⟩) (by simp) (.int .i64 E)).alloc (.cells #[.string S, .int .i64 E] 26)).mod hm2 (by simp; omega))
    have HM2 := Lib.hid (((((HM1.out.setCell (p := ⟨w.heap.size, 0, none⟩) (.inr (Nat.le_refl _)) (.string S)).setCell (p := ⟨w.heap.size, 1, none⟩) (.inr (Nat.le_refl _)) (.int .i64 E)).alloc (.cells #[.string S, .int .i64 E] 26)).weak0 (R := [g])).trans hm2 (by simp))
    have HT2 := Lib.hid hb2
    clear hm2 hb2 HT1 HM1 HB01 HB11 b0 b1 b2 b3
    go_wp2_with fail
    refine Fx.wp_region_f [23] (RdC w g S E) (by kernel_rfl) (by decide) ⟨HM2.out.drew, Blk.drew HT2.out, HX.out.drew, HY.out.drew⟩ ?_
    have hSS : ∀ m w', RdC w g S E m w' → _ := fun m w' h => Blk2 h.x
    have hP0 : ∀ w', RdC w g S E 0 w' → _ := fun w' h => And.intro (Blk2 h.x) (Blk2 h.y)
    refine Fx.take (i := 0) (v := ?_) _ rfl (by kernel_rfl) (by kernel_rfl) (by rfl) hSS ?_ ?_
    rotate_left
    · (intro w' hSw; (try dsimp only at hSw); go_simp; first | done | with_reducible rfl)
    try simp only [List.getElem_toArray, List.getElem_cons_succ, List.getElem_cons_zero, Act.put, List.setIfInBounds_toArray, List.set_cons_zero, List.set_cons_succ]
    refine Fx.take (i := 1) (v := ?_) _ rfl (by kernel_rfl) (by kernel_rfl) (by rfl) hSS ?_ ?_
    rotate_left
    · (intro w' hSw; (try dsimp only at hSw); go_simp; first | done | with_reducible rfl)
    try simp only [List.getElem_toArray, List.getElem_cons_succ, List.getElem_cons_zero, Act.put, List.setIfInBounds_toArray, List.set_cons_zero, List.set_cons_succ]
    refine Fx.take (i := 2) (v := ?_) _ rfl (by kernel_rfl) (by kernel_rfl) (by rfl) hSS ?_ ?_
    rotate_left
    · (intro w' hSw; (try dsimp only at hSw); go_simp; first | done | with_reducible rfl)
    try simp only [List.getElem_toArray, List.getElem_cons_succ, List.getElem_cons_zero, Act.put, List.setIfInBounds_toArray, List.set_cons_zero, List.set_cons_succ]
    refine Fx.take (i := 3) (v := ?_) _ rfl (by kernel_rfl) (by kernel_rfl) (by rfl) hSS ?_ ?_
    rotate_left
    · (intro w' hSw; (try dsimp only at hSw); go_simp; first | done | with_reducible rfl)
    try simp only [List.getElem_toArray, List.getElem_cons_succ, List.getElem_cons_zero, Act.put, List.setIfInBounds_toArray, List.set_cons_zero, List.set_cons_succ]
    refine Fx.take (i := 5) (v := ?_) _ rfl (by kernel_rfl) (by kernel_rfl) (by rfl) hSS ?_ ?_
    rotate_left
    · (intro w' hSw; (try dsimp only at hSw); go_simp; first | done | with_reducible rfl)
    try simp only [List.getElem_toArray, List.getElem_cons_succ, List.getElem_cons_zero, Act.put, List.setIfInBounds_toArray, List.set_cons_zero, List.set_cons_succ]
    refine Fx.take (i := 6) (v := ?_) _ rfl (by kernel_rfl) (by kernel_rfl) (by rfl) hSS ?_ ?_
    rotate_left
    · (intro w' hSw; (try dsimp only at hSw); go_simp; first | done | with_reducible rfl)
    try simp only [List.getElem_toArray, List.getElem_cons_succ, List.getElem_cons_zero, Act.put, List.setIfInBounds_toArray, List.set_cons_zero, List.set_cons_succ]
    refine Fx.call' (i := 4) rfl (by kernel_rfl) (by kernel_rfl) (by rfl) ?_
    apply Exists.intro
    apply Exists.intro
    apply Exists.intro
    refine ⟨?_, ?_, ?_⟩
    · (intro w'; go_simp; first | done | (refine ⟨?_, ?_⟩ <;> with_reducible rfl) | with_reducible rfl)
    · (exact fun m w' h => (Rest_calls g S E w' h.t).mono fun _ _ ⟨he, hw⟩ => ⟨he, hw ▸ h⟩)
    try simp only [List.getElem_toArray, List.getElem_cons_succ, List.getElem_cons_zero, Act.put, List.setIfInBounds_toArray, List.set_cons_zero, List.set_cons_succ]
    refine Fx.take (i := 7) (v := ?_) _ rfl (by kernel_rfl) (by kernel_rfl) (by rfl) hSS ?_ ?_
    rotate_left
    · (intro w' hSw; (try dsimp only at hSw); go_simp; first | done | with_reducible rfl)
    try simp only [List.getElem_toArray, List.getElem_cons_succ, List.getElem_cons_zero, Act.put, List.setIfInBounds_toArray, List.set_cons_zero, List.set_cons_succ]
    refine Fx.take (i := 8) (v := ?_) _ rfl (by kernel_rfl) (by kernel_rfl) (by rfl) hSS ?_ ?_
    rotate_left
    · (intro w' hSw; (try dsimp only at hSw); go_simp; first | done | with_reducible rfl)
    try simp only [List.getElem_toArray, List.getElem_cons_succ, List.getElem_cons_zero, Act.put, List.setIfInBounds_toArray, List.set_cons_zero, List.set_cons_succ]
    refine Fx.take (i := 9) (v := ?_) _ rfl (by kernel_rfl) (by kernel_rfl) (by rfl) hSS ?_ ?_
    rotate_left
    · (intro w' hSw; (try dsimp only at hSw); go_simp; first | done | with_reducible rfl)
    try simp only [List.getElem_toArray, List.getElem_cons_succ, List.getElem_cons_zero, Act.put, List.setIfInBounds_toArray, List.set_cons_zero, List.set_cons_succ]
    refine Fx.take (i := 10) (v := ?_) _ rfl (by kernel_rfl) (by kernel_rfl) (by rfl) hSS ?_ ?_
    rotate_left
    · (intro w' hSw; (try dsimp only at hSw); go_simp; first | done | with_reducible rfl)
    try simp only [List.getElem_toArray, List.getElem_cons_succ, List.getElem_cons_zero, Act.put, List.setIfInBounds_toArray, List.set_cons_zero, List.set_cons_succ]
    refine Fx.take (i := 12) (v := ?_) _ rfl (by kernel_rfl) (by kernel_rfl) (by rfl) hSS ?_ ?_
    rotate_left
    · (intro w' hSw; (try dsimp only at hSw); go_simp; first | done | with_reducible rfl)
    try simp only [List.getElem_toArray, List.getElem_cons_succ, List.getElem_cons_zero, Act.put, List.setIfInBounds_toArray, List.set_cons_zero, List.set_cons_succ]
    refine Fx.take (i := 13) (v := ?_) _ rfl (by kernel_rfl) (by kernel_rfl) (by rfl) hSS ?_ ?_
    rotate_left
    · (intro w' hSw; (try dsimp only at hSw); go_simp; first | done | with_reducible rfl)
    try simp only [List.getElem_toArray, List.getElem_cons_succ, List.getElem_cons_zero, Act.put, List.setIfInBounds_toArray, List.set_cons_zero, List.set_cons_succ]
    refine Fx.call' (i := 11) rfl (by kernel_rfl) (by kernel_rfl) (by rfl) ?_
    apply Exists.intro
    apply Exists.intro
    apply Exists.intro
    refine ⟨?_, ?_, ?_⟩
    · (intro w'; go_simp; first | done | (refine ⟨?_, ?_⟩ <;> with_reducible rfl) | with_reducible rfl)
    · (exact fun m w' h => (Err_calls g S E w' h.t).mono fun _ _ ⟨he, hw⟩ => ⟨he, hw ▸ h⟩)
    try simp only [List.getElem_toArray, List.getElem_cons_succ, List.getElem_cons_zero, Act.put, List.setIfInBounds_toArray, List.set_cons_zero, List.set_cons_succ]
    refine Fx.take (i := 14) (v := ?_) _ rfl (by kernel_rfl) (by kernel_rfl) (by rfl) hSS ?_ ?_
    rotate_left
    · (intro w' hSw; (try dsimp only at hSw); go_simp; first | done | with_reducible rfl)
    try simp only [List.getElem_toArray, List.getElem_cons_succ, List.getElem_cons_zero, Act.put, List.setIfInBounds_toArray, List.set_cons_zero, List.set_cons_succ]
    refine Fx.take (i := 15) (v := ?_) _ rfl (by kernel_rfl) (by kernel_rfl) (by rfl) hSS ?_ ?_
    rotate_left
    · (intro w' hSw; (try dsimp only at hSw); go_simp; first | done | with_reducible rfl)
    try simp only [List.getElem_toArray, List.getElem_cons_succ, List.getElem_cons_zero, Act.put, List.setIfInBounds_toArray, List.set_cons_zero, List.set_cons_succ]
    refine Fx.take (i := 16) (v := ?_) _ rfl (by kernel_rfl) (by kernel_rfl) (by rfl) hSS ?_ ?_
    rotate_left
    · (intro w' hSw; (try dsimp only at hSw); go_simp; first | done | with_reducible rfl)
    try simp only [List.getElem_toArray, List.getElem_cons_succ, List.getElem_cons_zero, Act.put, List.setIfInBounds_toArray, List.set_cons_zero, List.set_cons_succ]
    refine Fx.take (i := 17) (v := ?_) _ rfl (by kernel_rfl) (by kernel_rfl) (by rfl) hSS ?_ ?_
    rotate_left
    · (intro w' hSw; (try dsimp only at hSw); go_simp; first | done | with_reducible rfl)
    try simp only [List.getElem_toArray, List.getElem_cons_succ, List.getElem_cons_zero, Act.put, List.setIfInBounds_toArray, List.set_cons_zero, List.set_cons_succ]
    refine Fx.take (i := 19) (v := ?_) _ rfl (by kernel_rfl) (by kernel_rfl) (by rfl) hSS ?_ ?_
    rotate_left
    · (intro w' hSw; (try dsimp only at hSw); go_simp; first | done | with_reducible rfl)
    try simp only [List.getElem_toArray, List.getElem_cons_succ, List.getElem_cons_zero, Act.put, List.setIfInBounds_toArray, List.set_cons_zero, List.set_cons_succ]
    refine Fx.call' (i := 18) rfl (by kernel_rfl) (by kernel_rfl) (by rfl) ?_
    apply Exists.intro
    apply Exists.intro
    apply Exists.intro
    refine ⟨?_, ?_, ?_⟩
    · (intro w'; go_simp; first | done | (refine ⟨?_, ?_⟩ <;> with_reducible rfl) | with_reducible rfl)
    · (exact fun m w' h => (End_calls g S E w' h.t).mono fun _ _ ⟨he, hw⟩ => ⟨he, hw ▸ h⟩)
    try simp only [List.getElem_toArray, List.getElem_cons_succ, List.getElem_cons_zero, Act.put, List.setIfInBounds_toArray, List.set_cons_zero, List.set_cons_succ]
    refine Fx.call' (i := 20) rfl (by kernel_rfl) (by kernel_rfl) (by rfl) ?_
    apply Exists.intro
    apply Exists.intro
    apply Exists.intro
    refine ⟨?_, ?_, ?_⟩
    · (intro w'; go_simp; first | done | (refine ⟨?_, ?_⟩ <;> with_reducible rfl) | with_reducible rfl)
    · (exact fun m w' h => (rEnd_calls S E w').mono fun _ _ ⟨he, hw⟩ => ⟨he, h.step hw hgl⟩)
    try simp only [List.getElem_toArray, List.getElem_cons_succ, List.getElem_cons_zero, Act.put, List.setIfInBounds_toArray, List.set_cons_zero, List.set_cons_succ]
    refine Fx.take (i := 21) (v := ?_) _ rfl (by kernel_rfl) (by kernel_rfl) (by rfl) hSS ?_ ?_
    rotate_left
    · (intro w' hSw; (try dsimp only at hSw); go_simp; first | done | with_reducible rfl)
    try simp only [List.getElem_toArray, List.getElem_cons_succ, List.getElem_cons_zero, Act.put, List.setIfInBounds_toArray, List.set_cons_zero, List.set_cons_succ]
    refine Fx.take (i := 22) (v := ?_) _ rfl (by kernel_rfl) (by kernel_rfl) (by rfl) hSS ?_ ?_
    rotate_left
    · (intro w' hSw; (try dsimp only at hSw); go_simp; first | done | with_reducible rfl)
    try simp only [List.getElem_toArray, List.getElem_cons_succ, List.getElem_cons_zero, Act.put, List.setIfInBounds_toArray, List.set_cons_zero, List.set_cons_succ]
    refine Fx.put (i := 23) 0 ?_ rfl (by kernel_rfl) (by kernel_rfl) (by rfl) (by kernel_rfl) (by kernel_rfl) ?_ ?_ ?_
    rotate_left
    · (intro w' hC; obtain hSw := hP0 _ hC; (try dsimp only at hSw); go_simp; first | done | with_reducible rfl)
    · (exact fun w' h => h.put hgl)
    try simp only [List.getElem_toArray, List.getElem_cons_succ, List.getElem_cons_zero, Act.put, List.setIfInBounds_toArray, List.set_cons_zero, List.set_cons_succ]
    refine Fx.take (i := 24) (v := ?_) _ rfl (by kernel_rfl) (by kernel_rfl) (by rfl) hSS ?_ ?_
    rotate_left
    · (intro w' hSw; (try dsimp only at hSw); go_simp; first | done | with_reducible rfl)
    try simp only [List.getElem_toArray, List.getElem_cons_succ, List.getElem_cons_zero, Act.put, List.setIfInBounds_toArray, List.set_cons_zero, List.set_cons_succ]
    refine Fx.done 1 (by kernel_rfl) (by kernel_rfl) (fun w' hC => ?_)
    obtain ⟨c0, c1, c2, c3⟩ := Blk2 hC.y
    go_wp2_with fail
    refine bodyPost_ret (v := .tuple #[tapeV S E, .bool true]) (by simp [results, Try.results10, go_sem, c0, c1]) rfl ⟨rfl, hC.md, hC.t⟩
  · have e1 : behS k s e0 most = tS s e0 := by unfold behS; rw [if_neg (by omega)]; rw [if_pos h]
    have e2 : behE k s e0 most = tE s e0 := by unfold behE; rw [if_neg (by omega)]; rw [if_pos h]
    rw [e1, e2]
    have h5 : (k : Int) % 5 = 1 := by omega
    have R1 := Lib.hid (fun w => rInt_calls s e0 w hs)
    have T1 := Lib.hid (fun w hb => Int_calls g s e0 w hs hb)
    generalize tS s e0 = S at *
    generalize tE s e0 = E at *
    generalize unfoldI (tN s e0) = n at *
    clear e1 e2 h
    go_enter Try.func10, Try.ntmps10
    go_wp2_with fail
    refine (R1.out _).mono ?_
    rintro e w1 ⟨rfl, hm1⟩
    obtain ⟨b0, b1, b2, b3⟩ := Blk2 (HB0.out.mod hm1 (by simp))
    have HB01 := Lib.hid (HB0.out.mod hm1 (by simp))
    have HB11 := Lib.hid (HB1.out.mod hm1 (by simp))
    have HM1 := Lib.hid (HM0.out.trans0 hm1)
    have HT1 := Lib.hid (HT0.out.mod hm1 (by simp))
    have hz1 : w.heap.size < w1.heap.size := by have := hm1.size; simp at this; omega
    have hz2 : w.heap.size + 1 < w1.heap.size := by have := hm1.size; simp at this; omega
    clear hm1
    go_wp2_with fail
    refine (T1.out _ ?_).mono ?_
    · exact ((HT1.out.far (p := ⟨w.heap.size, 0, none⟩) hne _).far (p := ⟨w.heap.size, 1, none⟩) hne _).alloc _
    rintro e w2 ⟨rfl, hm2, hb2⟩
    have HX := Lib.hid ((((HB01.out.set 0 (.string S)).set 1 (.int .i64 E)).alloc (.cells #[.string S, .int .i64 E] 26)).mod hm2 (by simp; exact Ne.symm hne))
    have HY := Lib.hid ((((HB11.out.far (p := ⟨w.heap.size, 0, none⟩) (by simp) (.string S)).far (p := ⟨w.heap.size, 1, none⟩) (by simp) (.int .i64 E)).alloc (.cells #[.string S, .int .i64 E] 26)).mod hm2 (by simp; omega))
    have HM2 := Lib.hid (((((HM1.out.setCell (p := ⟨w.heap.size, 0, none⟩) (.inr (Nat.le_refl _)) (.string S)).setCell (p := ⟨w.heap.size, 1, none⟩) (.inr (Nat.le_refl _)) (.int .i64 E)).alloc (.cells #[.string S, .int .i64 E] 26)).weak0 (R := [g])).trans hm2 (by simp))
    have HT2 := Lib.hid hb2
    clear hm2 hb2 HT1 HM1 HB01 HB11 b0 b1 b2 b3
    go_wp2_with fail
    refine Fx.wp_region_f [23] (RdC w g S E) (by kernel_rfl) (by decide) ⟨HM2.out.drew, Blk.drew HT2.out, HX.out.drew, HY.out.drew⟩ ?_
    have hSS : ∀ m w', RdC w g S E m w' → _ := fun m w' h => Blk2 h.x
    have hP0 : ∀ w', RdC w g S E 0 w' → _ := fun w' h => And.intro (Blk2 h.x) (Blk2 h.y)
    refine Fx.take (i := 0) (v := ?_) _ rfl (by kernel_rfl) (by kernel_rfl) (by rfl) hSS ?_ ?_
    rotate_left
    · (intro w' hSw; (try dsimp only at hSw); go_simp; first | done | with_reducible rfl)
    try simp only [List.getElem_toArray, List.getElem_cons_succ, List.getElem_cons_zero, Act.put, List.setIfInBounds_toArray, List.set_cons_zero, List.set_cons_succ]
    refine Fx.take (i := 1) (v := ?_) _ rfl (by kernel_rfl) (by kernel_rfl) (by rfl) hSS ?_ ?_
    rotate_left
    · (intro w' hSw; (try dsimp only at hSw); go_simp; first | done | with_reducible rfl)
    try simp only [List.getElem_toArray, List.getElem_cons_succ, List.getElem_cons_zero, Act.put, List.setIfInBounds_toArray, List.set_cons_zero, List.set_cons_succ]
    refine Fx.take (i := 2) (v := ?_) _ rfl (by kernel_rfl) (by kernel_rfl) (by rfl) hSS ?_ ?_
    rotate_left
    · (intro w' hSw; (try dsimp only at hSw); go_simp; first | done | with_reducible rfl)
    try simp only [List.getElem_toArray, List.getElem_cons_succ, List.getElem_cons_zero, Act.put, List.setIfInBounds_toArray, List.set_cons_zero, List.set_cons_succ]
    refine Fx.take (i := 3) (v := ?_) _ rfl (by kernel_rfl) (by kernel_rfl) (by rfl) hSS ?_ ?_
    rotate_left
    · (intro w' hSw; (try dsimp only at hSw); go_simp; first | done | with_reducible rfl)
    try simp only [List.getElem_toArray, List.getElem_cons_succ, List.getElem_cons_zero, Act.put, List.setIfInBounds_toArray, List.set_cons_zero, List.set_cons_succ]
    refine Fx.take (i := 5) (v := ?_) _ rfl (by kernel_rfl) (by kernel_rfl) (by rfl) hSS ?_ ?_
    rotate_left
    · (intro w' hSw; (try dsimp only at hSw); go_simp; first | done | with_reducible rfl)
    try simp only [List.getElem_toArray, List.getElem_cons_succ, List.getElem_cons_zero, Act.put, List.setIfInBounds_toArray, List.set_cons_zero, List.set_cons_succ]
    refine Fx.take (i := 6) (v := ?_) _ rfl (by kernel_rfl) (by kernel_rfl) (by rfl) hSS ?_ ?_
    rotate_left
    · (intro w' hSw; (try dsimp only at hSw); go_simp; first | done | with_reducible rfl)
    try simp only [List.getElem_toArray, List.getElem_cons_succ, List.getElem_cons_zero, Act.put, List.setIfInBounds_toArray, List.set_cons_zero, List.set_cons_succ]
    refine Fx.call' (i := 4) rfl (by kernel_rfl) (by kernel_rfl) (by rfl) ?_
    apply Exists.intro
    apply Exists.intro
    apply Exists.intro
    refine ⟨?_, ?_, ?_⟩
    · (intro w'; go_simp; first | done | (refine ⟨?_, ?_⟩ <;> with_reducible rfl) | with_reducible rfl)
    · (exact fun m w' h => (Rest_calls g S E w' h.t).mono fun _ _ ⟨he, hw⟩ => ⟨he, hw ▸ h⟩)
    try simp only [List.getElem_toArray, List.getElem_cons_succ, List.getElem_cons_zero, Act.put, List.setIfInBounds_toArray, List.set_cons_zero, List.set_cons_succ]
    refine Fx.take (i := 7) (v := ?_) _ rfl (by kernel_rfl) (by kernel_rfl) (by rfl) hSS ?_ ?_
    rotate_left
    · (intro w' hSw; (try dsimp only at hSw); go_simp; first | done | with_reducible rfl)
    try simp only [List.getElem_toArray, List.getElem_cons_succ, List.getElem_cons_zero, Act.put, List.setIfInBounds_toArray, List.set_cons_zero, List.set_cons_succ]
    refine Fx.take (i := 8) (v := ?_) _ rfl (by kernel_rfl) (by kernel_rfl) (by rfl) hSS ?_ ?_
    rotate_left
    · (intro w' hSw; (try dsimp only at hSw); go_simp; first | done | with_reducible rfl)
    try simp only [List.getElem_toArray, List.getElem_cons_succ, List.getElem_cons_zero, Act.put, List.setIfInBounds_toArray, List.set_cons_zero, List.set_cons_succ]
    refine Fx.take (i := 9) (v := ?_) _ rfl (by kernel_rfl) (by kernel_rfl) (by rfl) hSS ?_ ?_
    rotate_left
    · (intro w' hSw; (try dsimp only at hSw); go_simp; first | done | with_reducible rfl)
    try simp only [List.getElem_toArray, List.getElem_cons_succ, List.getElem_cons_zero, Act.put, List.setIfInBounds_toArray, List.set_cons_zero, List.set_cons_succ]
    refine Fx.take (i := 10) (v := ?_) _ rfl (by kernel_rfl) (by kernel_rfl) (by rfl) hSS ?_ ?_
    rotate_left
    · (intro w' hSw; (try dsimp only at hSw); go_simp; first | done | with_reducible rfl)
    try simp only [List.getElem_toArray, List.getElem_cons_succ, List.getElem_cons_zero, Act.put, List.setIfInBounds_toArray, List.set_cons_zero, List.set_cons_succ]
    refine Fx.take (i := 12) (v := ?_) _ rfl (by kernel_rfl) (by kernel_rfl) (by rfl) hSS ?_ ?_
    rotate_left
    · (intro w' hSw; (try dsimp only at hSw); go_simp; first | done | with_reducible rfl)
    try simp only [List.getElem_toArray, List.getElem_cons_succ, List.getElem_cons_zero, Act.put, List.setIfInBounds_toArray, List.set_cons_zero, List.set_cons_succ]
    refine Fx.take (i := 13) (v := ?_) _ rfl (by kernel_rfl) (by kernel_rfl) (by rfl) hSS ?_ ?_
    rotate_left
    · (intro w' hSw; (try dsimp only at hSw); go_simp; first | done | with_reducible rfl)
    try simp only [List.getElem_toArray, List.getElem_cons_succ, List.getElem_cons_zero, Act.put, List.setIfInBounds_toArray, List.set_cons_zero, List.set_cons_succ]
    refine Fx.call' (i := 11) rfl (by kernel_rfl) (by kernel_rfl) (by rfl) ?_
    apply Exists.intro
    apply Exists.intro
    apply Exists.intro
    refine ⟨?_, ?_, ?_⟩
    · (intro w'; go_simp; first | done | (refine ⟨?_, ?_⟩ <;> with_reducible rfl) | with_reducible rfl)
    · (exact fun m w' h => (Err_calls g S E w' h.t).mono fun _ _ ⟨he, hw⟩ => ⟨he, hw ▸ h⟩)
    try simp only [List.getElem_toArray, List.getElem_cons_succ, List.getElem_cons_zero, Act.put, List.setIfInBounds_toArray, List.set_cons_zero, List.set_cons_succ]
    refine Fx.take (i := 14) (v := ?_) _ rfl (by kernel_rfl) (by kernel_rfl) (by rfl) hSS ?_ ?_
    rotate_left
    · (intro w' hSw; (try dsimp only at hSw); go_simp; first | done | with_reducible rfl)
    try simp only [List.getElem_toArray, List.getElem_cons_succ, List.getElem_cons_zero, Act.put, List.setIfInBounds_toArray, List.set_cons_zero, List.set_cons_succ]
    refine Fx.take (i := 15) (v := ?_) _ rfl (by kernel_rfl) (by kernel_rfl) (by rfl) hSS ?_ ?_
    rotate_left
    · (intro w' hSw; (try dsimp only at hSw); go_simp; first | done | with_reducible rfl)
    try simp only [List.getElem_toArray, List.getElem_cons_succ, List.getElem_cons_zero, Act.put, List.setIfInBounds_toArray, List.set_cons_zero, List.set_cons_succ]
    refine Fx.take (i := 16) (v := ?_) _ rfl (by kernel_rfl) (by kernel_rfl) (by rfl) hSS ?_ ?_
    rotate_left
    · (intro w' hSw; (try dsimp only at hSw); go_simp; first | done | with_reducible rfl)
    try simp only [List.getElem_toArray, List.getElem_cons_succ, List.getElem_cons_zero, Act.put, List.setIfInBounds_toArray, List.set_cons_zero, List.set_cons_succ]
    refine Fx.take (i := 17) (v := ?_) _ rfl (by kernel_rfl) (by kernel_rfl) (by rfl) hSS ?_ ?_
    rotate_left
    · (intro w' hSw; (try dsimp only at hSw); go_simp; first | done | with_reducible rfl)
    try simp only [List.getElem_toArray, List.getElem_cons_succ, List.getElem_cons_zero, Act.put, List.setIfInBounds_toArray, List.set_cons_zero, List.set_cons_succ]
    refine Fx.take (i := 19) (v := ?_) _ rfl (by kernel_rfl) (by kernel_rfl) (by rfl) hSS ?_ ?_
    rotate_left
    · (intro w' hSw; (try dsimp only at hSw); go_simp; first | done | with_reducible rfl)
    try simp only [List.getElem_toArray, List.getElem_cons_succ, List.getElem_cons_zero, Act.put, List.setIfInBounds_toArray, List.set_cons_zero, List.set_cons_succ]
    refine Fx.call' (i := 18) rfl (by kernel_rfl) (by kernel_rfl) (by rfl) ?_
    apply Exists.intro
    apply Exists.intro
    apply Exists.intro
    refine ⟨?_, ?_, ?_⟩
    · (intro w'; go_simp; first | done | (refine ⟨?_, ?_⟩ <;> with_reducible rfl) | with_reducible rfl)
    · (exact fun m w' h => (End_calls g S E w' h.t).mono fun _ _ ⟨he, hw⟩ => ⟨he, hw ▸ h⟩)
    try simp only [List.getElem_toArray, List.getElem_cons_succ, List.getElem_cons_zero, Act.put, List.setIfInBounds_toArray, List.set_cons_zero, List.set_cons_succ]
    refine Fx.call' (i := 20) rfl (by kernel_rfl) (by kernel_rfl) (by rfl) ?_
    apply Exists.intro
    apply Exists.intro
    apply Exists.intro
    refine ⟨?_, ?_, ?_⟩
    · (intro w'; go_simp; first | done | (refine ⟨?_, ?_⟩ <;> with_reducible rfl) | with_reducible rfl)
    · (exact fun m w' h => (rEnd_calls S E w').mono fun _ _ ⟨he, hw⟩ => ⟨he, h.step hw hgl⟩)
    try simp only [List.getElem_toArray, List.getElem_cons_succ, List.getElem_cons_zero, Act.put, List.setIfInBounds_toArray, List.set_cons_zero, List.set_cons_succ]
    refine Fx.take (i := 21) (v := ?_) _ rfl (by kernel_rfl) (by kernel_rfl) (by rfl) hSS ?_ ?_
    rotate_left
    · (intro w' hSw; (try dsimp only at hSw); go_simp; first | done | with_reducible rfl)
    try simp only [List.getElem_toArray, List.getElem_cons_succ, List.getElem_cons_zero, Act.put, List.setIfInBounds_toArray, List.set_cons_zero, List.set_cons_succ]
    refine Fx.take (i := 22) (v := ?_) _ rfl (by kernel_rfl) (by kernel_rfl) (by rfl) hSS ?_ ?_
    rotate_left
    · (intro w' hSw; (try dsimp only at hSw); go_simp; first | done | with_reducible rfl)
    try simp only [List.getElem_toArray, List.getElem_cons_succ, List.getElem_cons_zero, Act.put, List.setIfInBounds_toArray, List.set_cons_zero, List.set_cons_succ]
    refine Fx.put (i := 23) 0 ?_ rfl (by kernel_rfl) (by kernel_rfl) (by rfl) (by kernel_rfl) (by kernel_rfl) ?_ ?_ ?_
    rotate_left
    · (intro w' hC; obtain hSw := hP0 _ hC; (try dsimp only at hSw); go_simp; first | done | with_reducible rfl)
    · (exact fun w' h => h.put hgl)
    try simp only [List.getElem_toArray, List.getElem_cons_succ, List.getElem_cons_zero, Act.put, List.setIfInBounds_toArray, List.set_cons_zero, List.set_cons_succ]
    refine Fx.take (i := 24) (v := ?_) _ rfl (by kernel_rfl) (by kernel_rfl) (by rfl) hSS ?_ ?_
    rotate_left
    · (intro w' hSw; (try dsimp only at hSw); go_simp; first | done | with_reducible rfl)
    try simp only [List.getElem_toArray, List.getElem_cons_succ, List.getElem_cons_zero, Act.put, List.setIfInBounds_toArray, List.set_cons_zero, List.set_cons_succ]
    refine Fx.done 1 (by kernel_rfl) (by kernel_rfl) (fun w' hC => ?_)
    obtain ⟨c0, c1, c2, c3⟩ := Blk2 hC.y
    go_wp2_with fail
    refine bodyPost_ret (v := .tuple #[tapeV S E, .bool true]) (by simp [results, Try.results10, go_sem, c0, c1]) rfl ⟨rfl, hC.md, hC.t⟩
  · have e1 : behS k s e0 most = (realR s e0).2.1 := by unfold behS; rw [if_neg (by omega)]; rw [if_neg (by omega)]; rw [if_pos h]
    have e2 : behE k s e0 most = (realR s e0).2.2 := by unfold behE; rw [if_neg (by omega)]; rw [if_neg (by omega)]; rw [if_pos h]
    rw [e1, e2]
    have h5 : (k : Int) % 5 = 2 := by omega
    have R1 := Lib.hid (fun w => rReal_calls s e0 w hs)
    have T1 := Lib.hid (fun w hb => Real_calls g s e0 w hs hb)
    generalize (realR s e0).2.1 = S at *
    generalize (realR s e0).2.2 = E at *
    generalize (realR s e0).1 = n at *
    clear e1 e2 h
    go_enter Try.func10, Try.ntmps10
    go_wp2_with fail
    refine (R1.out _).mono ?_
    rintro e w1 ⟨rfl, hm1⟩
    obtain ⟨b0, b1, b2, b3⟩ := Blk2 (HB0.out.mod hm1 (by simp))
    have HB01 := Lib.hid (HB0.out.mod hm1 (by simp))
    have HB11 := Lib.hid (HB1.out.mod hm1 (by simp))
    have HM1 := Lib.hid (HM0.out.trans0 hm1)
    have HT1 := Lib.hid (HT0.out.mod hm1 (by simp))
    have hz1 : w.heap.size < w1.heap.size := by have := hm1.size; simp at this; omega
    have hz2 : w.heap.size + 1 < w1.heap.size := by have := hm1.size; simp at this; omega
    clear hm1
    go_wp2_with fail
    refine (T1.out _ ?_).mono ?_
    · exact ((HT1.out.far (p := ⟨w.heap.size, 0, none⟩) hne _).far (p := ⟨w.heap.size, 1, none⟩) hne _).alloc _
    rintro e w2 ⟨rfl, hm2, hb2⟩
    have HX := Lib.hid ((((HB01.out.set 0 (.string S)).set 1 (.int .i64 E)).alloc (.cells #[.string S, .int .i64 E] 26)).mod hm2 (by simp; exact Ne.symm hne))
    have HY := Lib.hid ((((HB11.out.far (p := ⟨w.heap.size, 0, none⟩) (by simp) (.string S)).far (p := ⟨w.heap.size, 1, none⟩) (by simp) (.int .i64 E)).alloc (.cells #[.string S, .int .i64 E] 26)).mod hm2 (by simp; omega))
    have HM2 := Lib.hid (((((HM1.out.setCell (p := ⟨w.heap.size, 0, none⟩) (.inr (Nat.le_refl _)) (.string S)).setCell (p := ⟨w.heap.size, 1, none⟩) (.inr (Nat.le_refl _)) (.int .i64 E)).alloc (.cells #[.string S, .int .i64 E] 26)).weak0 (R := [g])).trans hm2 (by simp))
    have HT2 := Lib.hid hb2
    clear hm2 hb2 HT1 HM1 HB01 HB11 b0 b1 b2 b3
    go_wp2_with (first | (with_reducible refine (refbits_calls _ _).mono ?_); rintro e w' ⟨rfl, rfl⟩)
    refine Fx.wp_region_f [23] (RdC w g S E) (by kernel_rfl) (by decide) ⟨HM2.out.drew, Blk.drew HT2.out, HX.out.drew, HY.out.drew⟩ ?_
    have hSS : ∀ m w', RdC w g S E m w' → _ := fun m w' h => Blk2 h.x
    have hP0 : ∀ w', RdC w g S E 0 w' → _ := fun w' h => And.intro (Blk2 h.x) (Blk2 h.y)
    refine Fx.take (i := 0) (v := ?_) _ rfl (by kernel_rfl) (by kernel_rfl) (by rfl) hSS ?_ ?_
    rotate_left
    · (intro w' hSw; (try dsimp only at hSw); go_simp; first | done | with_reducible rfl)
    try simp only [List.getElem_toArray, List.getElem_cons_succ, List.getElem_cons_zero, Act.put, List.setIfInBounds_toArray, List.set_cons_zero, List.set_cons_succ]
    refine Fx.take (i := 1) (v := ?_) _ rfl (by kernel_rfl) (by kernel_rfl) (by rfl) hSS ?_ ?_
    rotate_left
    · (intro w' hSw; (try dsimp only at hSw); go_simp; first | done | with_reducible rfl)
    try simp only [List.getElem_toArray, List.getElem_cons_succ, List.getElem_cons_zero, Act.put, List.setIfInBounds_toArray, List.set_cons_zero, List.set_cons_succ]
    refine Fx.take (i := 2) (v := ?_) _ rfl (by kernel_rfl) (by kernel_rfl) (by rfl) hSS ?_ ?_
    rotate_left
    · (intro w' hSw; (try dsimp only at hSw); go_simp; first | done | with_reducible rfl)
    try simp only [List.getElem_toArray, List.getElem_cons_succ, List.getElem_cons_zero, Act.put, List.setIfInBounds_toArray, List.set_cons_zero, List.set_cons_succ]
    refine Fx.take (i := 3) (v := ?_) _ rfl (by kernel_rfl) (by kernel_rfl) (by rfl) hSS ?_ ?_
    rotate_left
    · (intro w' hSw; (try dsimp only at hSw); go_simp; first | done | with_reducible rfl)
    try simp only [List.getElem_toArray, List.getElem_cons_succ, List.getElem_cons_zero, Act.put, List.setIfInBounds_toArray, List.set_cons_zero, List.set_cons_succ]
    refine Fx.take (i := 5) (v := ?_) _ rfl (by kernel_rfl) (by kernel_rfl) (by rfl) hSS ?_ ?_
    rotate_left
    · (intro w' hSw; (try dsimp only at hSw); go_simp; first | done | with_reducible rfl)
    try simp only [List.getElem_toArray, List.getElem_cons_succ, List.getElem_cons_zero, Act.put, List.setIfInBounds_toArray, List.set_cons_zero, List.set_cons_succ]
    refine Fx.take (i := 6) (v := ?_) _ rfl (by kernel_rfl) (by kernel_rfl) (by rfl) hSS ?_ ?_
    rotate_left
    · (intro w' hSw; (try dsimp only at hSw); go_simp; first | done | with_reducible rfl)
    try simp only [List.getElem_toArray, List.getElem_cons_succ, List.getElem_cons_zero, Act.put, List.setIfInBounds_toArray, List.set_cons_zero, List.set_cons_succ]
    refine Fx.call' (i := 4) rfl (by kernel_rfl) (by kernel_rfl) (by rfl) ?_
    apply Exists.intro
    apply Exists.intro
    apply Exists.intro
    refine ⟨?_, ?_, ?_⟩
    · (intro w'; go_simp; first | done | (refine ⟨?_, ?_⟩ <;> with_reducible rfl) | with_reducible rfl)
    · (exact fun m w' h => (Rest_calls g S E w' h.t).mono fun _ _ ⟨he, hw⟩ => ⟨he, hw ▸ h⟩)
    try simp only [List.getElem_toArray, List.getElem_cons_succ, List.getElem_cons_zero, Act.put, List.setIfInBounds_toArray, List.set_cons_zero, List.set_cons_succ]
    refine Fx.take (i := 7) (v := ?_) _ rfl (by kernel_rfl) (by kernel_rfl) (by rfl) hSS ?_ ?_
    rotate_left
    · (intro w' hSw; (try dsimp only at hSw); go_simp; first | done | with_reducible rfl)
    try simp only [List.getElem_toArray, List.getElem_cons_succ, List.getElem_cons_zero, Act.put, List.setIfInBounds_toArray, List.set_cons_zero, List.set_cons_succ]
    refine Fx.take (i := 8) (v := ?_) _ rfl (by kernel_rfl) (by kernel_rfl) (by rfl) hSS ?_ ?_
    rotate_left
    · (intro w' hSw; (try dsimp only at hSw); go_simp; first | done | with_reducible rfl)
    try simp only [List.getElem_toArray, List.getElem_cons_succ, List.getElem_cons_zero, Act.put, List.setIfInBounds_toArray, List.set_cons_zero, List.set_cons_succ]
    refine Fx.take (i := 9) (v := ?_) _ rfl (by kernel_rfl) (by kernel_rfl) (by rfl) hSS ?_ ?_
    rotate_left
    · (intro w' hSw; (try dsimp only at hSw); go_simp; first | done | with_reducible rfl)
    try simp only [List.getElem_toArray, List.getElem_cons_succ, List.getElem_cons_zero, Act.put, List.setIfInBounds_toArray, List.set_cons_zero, List.set_cons_succ]
    refine Fx.take (i := 10) (v := ?_) _ rfl (by kernel_rfl) (by kernel_rfl) (by rfl) hSS ?_ ?_
    rotate_left
    · (intro w' hSw; (try dsimp only at hSw); go_simp; first | done | with_reducible rfl)
    try simp only [List.getElem_toArray, List.getElem_cons_succ, List.getElem_cons_zero, Act.put, List.setIfInBounds_toArray, List.set_cons_zero, List.set_cons_succ]
    refine Fx.take (i := 12) (v := ?_) _ rfl (by kernel_rfl) (by kernel_rfl) (by rfl) hSS ?_ ?_
    rotate_left
    · (intro w' hSw; (try dsimp only at hSw); go_simp; first | done | with_reducible rfl)
    try simp only [List.getElem_toArray, List.getElem_cons_succ, List.getElem_cons_zero, Act.put, List.setIfInBounds_toArray, List.set_cons_zero, List.set_cons_succ]
    refine Fx.take (i := 13) (v := ?_) _ rfl (by kernel_rfl) (by kernel_rfl) (by rfl) hSS ?_ ?_
    rotate_left
    · (intro w' hSw; (try dsimp only at hSw); go_simp; first | done | with_reducible rfl)
    try simp only [List.getElem_toArray, List.getElem_cons_succ, List.getElem_cons_zero, Act.put, List.setIfInBounds_toArray, List.set_cons_zero, List.set_cons_succ]
    refine Fx.call' (i := 11) rfl (by kernel_rfl) (by kernel_rfl) (by rfl) ?_
    apply Exists.intro
    apply Exists.intro
    apply Exists.intro
    refine ⟨?_, ?_, ?_⟩
    · (intro w'; go_simp; first | done | (refine ⟨?_, ?_⟩ <;> with_reducible rfl) | with_reducible rfl)
    · (exact fun m w' h => (Err_calls g S E w' h.t).mono fun _ _ ⟨he, hw⟩ => ⟨he, hw ▸ h⟩)
    try simp only [List.getElem_toArray, List.getElem_cons_succ, List.getElem_cons_zero, Act.put, List.setIfInBounds_toArray, List.set_cons_zero, List.set_cons_succ]
    refine Fx.take (i := 14) (v := ?_) _ rfl (by kernel_rfl) (by kernel_rfl) (by rfl) hSS ?_ ?_
    rotate_left
    · (intro w' hSw; (try dsimp only at hSw); go_simp; first | done | with_reducible rfl)
    try simp only [List.getElem_toArray, List.getElem_cons_succ, List.getElem_cons_zero, Act.put, List.setIfInBounds_toArray, List.set_cons_zero, List.set_cons_succ]
    refine Fx.take (i := 15) (v := ?_) _ rfl (by kernel_rfl) (by kernel_rfl) (by rfl) hSS ?_ ?_
    rotate_left
    · (intro w' hSw; (try dsimp only at hSw); go_simp; first | done | with_reducible rfl)
    try simp only [List.getElem_toArray, List.getElem_cons_succ, List.getElem_cons_zero, Act.put, List.setIfInBounds_toArray, List.set_cons_zero, List.set_cons_succ]
    refine Fx.take (i := 16) (v := ?_) _ rfl (by kernel_rfl) (by kernel_rfl) (by rfl) hSS ?_ ?_
    rotate_left
    · (intro w' hSw; (try dsimp only at hSw); go_simp; first | done | with_reducible rfl)
    try simp only [List.getElem_toArray, List.getElem_cons_succ, List.getElem_cons_zero, Act.put, List.setIfInBounds_toArray, List.set_cons_zero, List.set_cons_succ]
    refine Fx.take (i := 17) (v := ?_) _ rfl (by kernel_rfl) (by kernel_rfl) (by rfl) hSS ?_ ?_
    rotate_left
    · (intro w' hSw; (try dsimp only at hSw); go_simp; first | done | with_reducible rfl)
    try simp only [List.getElem_toArray, List.getElem_cons_succ, List.getElem_cons_zero, Act.put, List.setIfInBounds_toArray, List.set_cons_zero, List.set_cons_succ]
    refine Fx.take (i := 19) (v := ?_) _ rfl (by kernel_rfl) (by kernel_rfl) (by rfl) hSS ?_ ?_
    rotate_left
    · (intro w' hSw; (try dsimp only at hSw); go_simp; first | done | with_reducible rfl)
    try simp only [List.getElem_toArray, List.getElem_cons_succ, List.getElem_cons_zero, Act.put, List.setIfInBounds_toArray, List.set_cons_zero, List.set_cons_succ]
    refine Fx.call' (i := 18) rfl (by kernel_rfl) (by kernel_rfl) (by rfl) ?_
    apply Exists.intro
    apply Exists.intro
    apply Exists.intro
    refine ⟨?_, ?_, ?_⟩
    · (intro w'; go_simp; first | done | (refine ⟨?_, ?_⟩ <;> with_reducible rfl) | with_reducible rfl)
    · (exact fun m w' h => (End_calls g S E w' h.t).mono fun _ _ ⟨he, hw⟩ => ⟨he, hw ▸ h⟩)
    try simp only [List.getElem_toArray, List.getElem_cons_succ, List.getElem_cons_zero, Act.put, List.setIfInBounds_toArray, List.set_cons_zero, List.set_cons_succ]
    refine Fx.call' (i := 20) rfl (by kernel_rfl) (by kernel_rfl) (by rfl) ?_
    apply Exists.intro
    apply Exists.intro
    apply Exists.intro
    refine ⟨?_, ?_, ?_⟩
    · (intro w'; go_simp; first | done | (refine ⟨?_, ?_⟩ <;> with_reducible rfl) | with_reducible rfl)
    · (exact fun m w' h => (rEnd_calls S E w').mono fun _ _ ⟨he, hw⟩ => ⟨he, h.step hw hgl⟩)
    try simp only [List.getElem_toArray, List.getElem_cons_succ, List.getElem_cons_zero, Act.put, List.setIfInBounds_toArray, List.set_cons_zero, List.set_cons_succ]
    refine Fx.take (i := 21) (v := ?_) _ rfl (by kernel_rfl) (by kernel_rfl) (by rfl) hSS ?_ ?_
    rotate_left
    · (intro w' hSw; (try dsimp only at hSw); go_simp; first | done | with_reducible rfl)
    try simp only [List.getElem_toArray, List.getElem_cons_succ, List.getElem_cons_zero, Act.put, List.setIfInBounds_toArray, List.set_cons_zero, List.set_cons_succ]
    refine Fx.take (i := 22) (v := ?_) _ rfl (by kernel_rfl) (by kernel_rfl) (by rfl) hSS ?_ ?_
    rotate_left
    · (intro w' hSw; (try dsimp only at hSw); go_simp; first | done | with_reducible rfl)
    try simp only [List.getElem_toArray, List.getElem_cons_succ, List.getElem_cons_zero, Act.put, List.setIfInBounds_toArray, List.set_cons_zero, List.set_cons_succ]
    refine Fx.put (i := 23) 0 ?_ rfl (by kernel_rfl) (by kernel_rfl) (by rfl) (by kernel_rfl) (by kernel_rfl) ?_ ?_ ?_
    rotate_left
    · (intro w' hC; obtain hSw := hP0 _ hC; (try dsimp only at hSw); go_simp; first | done | with_reducible rfl)
    · (exact fun w' h => h.put hgl)
    try simp only [List.getElem_toArray, List.getElem_cons_succ, List.getElem_cons_zero, Act.put, List.setIfInBounds_toArray, List.set_cons_zero, List.set_cons_succ]
    refine Fx.take (i := 24) (v := ?_) _ rfl (by kernel_rfl) (by kernel_rfl) (by rfl) hSS ?_ ?_
    rotate_left
    · (intro w' hSw; (try dsimp only at hSw); go_simp; first | done | with_reducible rfl)
    try simp only [List.getElem_toArray, List.getElem_cons_succ, List.getElem_cons_zero, Act.put, List.setIfInBounds_toArray, List.set_cons_zero, List.set_cons_succ]
    refine Fx.done 1 (by kernel_rfl) (by kernel_rfl) (fun w' hC => ?_)
    obtain ⟨c0, c1, c2, c3⟩ := Blk2 hC.y
    go_wp2_with fail
    refine bodyPost_ret (v := .tuple #[tapeV S E, .bool true]) (by simp [results, Try.results10, go_sem, c0, c1]) rfl ⟨rfl, hC.md, hC.t⟩
  · have e1 : behS k s e0 most = (textR s e0 most).2.1 := by unfold behS; rw [if_neg (by omega)]; rw [if_neg (by omega)]; rw [if_neg (by omega)]; rw [if_pos h]
    have e2 : behE k s e0 most = (textR s e0 most).2.2 := by unfold behE; rw [if_neg (by omega)]; rw [if_neg (by omega)]; rw [if_neg (by omega)]; rw [if_pos h]
    rw [e1, e2]
    have h5 : (k : Int) % 5 = 3 := by omega
    have R1 := Lib.hid (fun w => rText_calls s e0 most m1 m2 w hs)
    have T1 := Lib.hid (fun w hb => Text_calls g s e0 most m1 m2 w hs hb)
    generalize (textR s e0 most).2.1 = S at *
    generalize (textR s e0 most).2.2 = E at *
    generalize (textR s e0 most).1 = n at *
    clear e1 e2 h
    go_enter Try.func10, Try.ntmps10
    go_wp2_with fail
    refine (R1.out _).mono ?_
    rintro e w1 ⟨rfl, hm1⟩
    obtain ⟨b0, b1, b2, b3⟩ := Blk2 (HB0.out.mod hm1 (by simp))
    have HB01 := Lib.hid (HB0.out.mod hm1 (by simp))
    have HB11 := Lib.hid (HB1.out.mod hm1 (by simp))
    have HM1 := Lib.hid (HM0.out.trans0 hm1)
    have HT1 := Lib.hid (HT0.out.mod hm1 (by simp))
    have hz1 : w.heap.size < w1.heap.size := by have := hm1.size; simp at this; omega
    have hz2 : w.heap.size + 1 < w1.heap.size := by have := hm1.size; simp at this; omega
    clear hm1
    go_wp2_with fail
    refine (T1.out _ ?_).mono ?_
    · exact ((HT1.out.far (p := ⟨w.heap.size, 0, none⟩) hne _).far (p := ⟨w.heap.size, 1, none⟩) hne _).alloc _
    rintro e w2 ⟨rfl, hm2, hb2⟩
    have HX := Lib.hid ((((HB01.out.set 0 (.string S)).set 1 (.int .i64 E)).alloc (.cells #[.string S, .int .i64 E] 26)).mod hm2 (by simp; exact Ne.symm hne))
    have HY := Lib.hid ((((HB11.out.far (p := ⟨w.heap.size, 0, none⟩) (by simp) (.string S)).far (p := ⟨w.heap.size, 1, none⟩) (by simp) (.int .i64 E)).alloc (.cells #[.string S, .int .i64 E] 26)).mod hm2 (by simp; omega))
    have HM2 := Lib.hid (((((HM1.out.setCell (p := ⟨w.heap.size, 0, none⟩) (.inr (Nat.le_refl _)) (.string S)).setCell (p := ⟨w.heap.size, 1, none⟩) (.inr (Nat.le_refl _)) (.int .i64 E)).alloc (.cells #[.string S, .int .i64 E] 26)).weak0 (R := [g])).trans hm2 (by simp))
    have HT2 := Lib.hid hb2
    clear hm2 hb2 HT1 HM1 HB01 HB11 b0 b1 b2 b3
    go_wp2_with fail
    refine Fx.wp_region_f [23] (RdC w g S E) (by kernel_rfl) (by decide) ⟨HM2.out.drew, Blk.drew HT2.out, HX.out.drew, HY.out.drew⟩ ?_
    have hSS : ∀ m w', RdC w g S E m w' → _ := fun m w' h => Blk2 h.x
    have hP0 : ∀ w', RdC w g S E 0 w' → _ := fun w' h => And.intro (Blk2 h.x) (Blk2 h.y)
    refine Fx.take (i := 0) (v := ?_) _ rfl (by kernel_rfl) (by kernel_rfl) (by rfl) hSS ?_ ?_
    rotate_left
    · (intro w' hSw; (try dsimp only at hSw); go_simp; first | done | with_reducible rfl)
    try simp only [List.getElem_toArray, List.getElem_cons_succ, List.getElem_cons_zero, Act.put, List.setIfInBounds_toArray, List.set_cons_zero, List.set_cons_succ]
    refine Fx.take (i := 1) (v := ?_) _ rfl (by kernel_rfl) (by kernel_rfl) (by rfl) hSS ?_ ?_
    rotate_left
    · (intro w' hSw; (try dsimp only at hSw); go_simp; first | done | with_reducible rfl)
    try simp only [List.getElem_toArray, List.getElem_cons_succ, List.getElem_cons_zero, Act.put, List.setIfInBounds_toArray, List.set_cons_zero, List.set_cons_succ]
    refine Fx.take (i := 2) (v := ?_) _ rfl (by kernel_rfl) (by kernel_rfl) (by rfl) hSS ?_ ?_
    rotate_left
    · (intro w' hSw; (try dsimp only at hSw); go_simp; first | done | with_reducible rfl)
    try simp only [List.getElem_toArray, List.getElem_cons_succ, List.getElem_cons_zero, Act.put, List.setIfInBounds_toArray, List.set_cons_zero, List.set_cons_succ]
    refine Fx.take (i := 3) (v := ?_) _ rfl (by kernel_rfl) (by kernel_rfl) (by rfl) hSS ?_ ?_
    rotate_left
    · (intro w' hSw; (try dsimp only at hSw); go_simp; first | done | with_reducible rfl)
    try simp only [List.getElem_toArray, List.getElem_cons_succ, List.getElem_cons_zero, Act.put, List.setIfInBounds_toArray, List.set_cons_zero, List.set_cons_succ]
    refine Fx.take (i := 5) (v := ?_) _ rfl (by kernel_rfl) (by kernel_rfl) (by rfl) hSS ?_ ?_
    rotate_left
    · (intro w' hSw; (try dsimp only at hSw); go_simp; first | done | with_reducible rfl)
    try simp only [List.getElem_toArray, List.getElem_cons_succ, List.getElem_cons_zero, Act.put, List.setIfInBounds_toArray, List.set_cons_zero, List.set_cons_succ]
    refine Fx.take (i := 6) (v := ?_) _ rfl (by kernel_rfl) (by kernel_rfl) (by rfl) hSS ?_ ?_
    rotate_left
    · (intro w' hSw; (try dsimp only at hSw); go_simp; first | done | with_reducible rfl)
    try simp only [List.getElem_toArray, List.getElem_cons_succ, List.getElem_cons_zero, Act.put, List.setIfInBounds_toArray, List.set_cons_zero, List.set_cons_succ]
    refine Fx.call' (i := 4) rfl (by kernel_rfl) (by kernel_rfl) (by rfl) ?_
    apply Exists.intro
    apply Exists.intro
    apply Exists.intro
    refine ⟨?_, ?_, ?_⟩
    · (intro w'; go_simp; first | done | (refine ⟨?_, ?_⟩ <;> with_reducible rfl) | with_reducible rfl)
    · (exact fun m w' h => (Rest_calls g S E w' h.t).mono fun _ _ ⟨he, hw⟩ => ⟨he, hw ▸ h⟩)
    try simp only [List.getElem_toArray, List.getElem_cons_succ, List.getElem_cons_zero, Act.put, List.setIfInBounds_toArray, List.set_cons_zero, List.set_cons_succ]
    refine Fx.take (i := 7) (v := ?_) _ rfl (by kernel_rfl) (by kernel_rfl) (by rfl) hSS ?_ ?_
    rotate_left
    · (intro w' hSw; (try dsimp only at hSw); go_simp; first | done | with_reducible rfl)
    try simp only [List.getElem_toArray, List.getElem_cons_succ, List.getElem_cons_zero, Act.put, List.setIfInBounds_toArray, List.set_cons_zero, List.set_cons_succ]
    refine Fx.take (i := 8) (v := ?_) _ rfl (by kernel_rfl) (by kernel_rfl) (by rfl) hSS ?_ ?_
    rotate_left
    · (intro w' hSw; (try dsimp only at hSw); go_simp; first | done | with_reducible rfl)
    try simp only [List.getElem_toArray, List.getElem_cons_succ, List.getElem_cons_zero, Act.put, List.setIfInBounds_toArray, List.set_cons_zero, List.set_cons_succ]
    refine Fx.take (i := 9) (v := ?_) _ rfl (by kernel_rfl) (by kernel_rfl) (by rfl) hSS ?_ ?_
    rotate_left
    · (intro w' hSw; (try dsimp only at hSw); go_simp; first | done | with_reducible rfl)
    try simp only [List.getElem_toArray, List.getElem_cons_succ, List.getElem_cons_zero, Act.put, List.setIfInBounds_toArray, List.set_cons_zero, List.set_cons_succ]
    refine Fx.take (i := 10) (v := ?_) _ rfl (by kernel_rfl) (by kernel_rfl) (by rfl) hSS ?_ ?_
    rotate_left
    · (intro w' hSw; (try dsimp only at hSw); go_simp; first | done | with_reducible rfl)
    try simp only [List.getElem_toArray, List.getElem_cons_succ, List.getElem_cons_zero, Act.put, List.setIfInBounds_toArray, List.set_cons_zero, List.set_cons_succ]
    refine Fx.take (i := 12) (v := ?_) _ rfl (by kernel_rfl) (by kernel_rfl) (by rfl) hSS ?_ ?_
    rotate_left
    · (intro w' hSw; (try dsimp only at hSw); go_simp; first | done | with_reducible rfl)
    try simp only [List.getElem_toArray, List.getElem_cons_succ, List.getElem_cons_zero, Act.put, List.setIfInBounds_toArray, List.set_cons_zero, List.set_cons_succ]
    refine Fx.take (i := 13) (v := ?_) _ rfl (by kernel_rfl) (by kernel_rfl) (by rfl) hSS ?_ ?_
    rotate_left
    · (intro w' hSw; (try dsimp only at hSw); go_simp; first | done | with_reducible rfl)
    try simp only [List.getElem_toArray, List.getElem_cons_succ, List.getElem_cons_zero, Act.put, List.setIfInBounds_toArray, List.set_cons_zero, List.set_cons_succ]
    refine Fx.call' (i := 11) rfl (by kernel_rfl) (by kernel_rfl) (by rfl) ?_
    apply Exists.intro
    apply Exists.intro
    apply Exists.intro
    refine ⟨?_, ?_, ?_⟩
    · (intro w'; go_simp; first | done | (refine ⟨?_, ?_⟩ <;> with_reducible rfl) | with_reducible rfl)
    · (exact fun m w' h => (Err_calls g S E w' h.t).mono fun _ _ ⟨he, hw⟩ => ⟨he, hw ▸ h⟩)
    try simp only [List.getElem_toArray, List.getElem_cons_succ, List.getElem_cons_zero, Act.put, List.setIfInBounds_toArray, List.set_cons_zero, List.set_cons_succ]
    refine Fx.take (i := 14) (v := ?_) _ rfl (by kernel_rfl) (by kernel_rfl) (by rfl) hSS ?_ ?_
    rotate_left
    · (intro w' hSw; (try dsimp only at hSw); go_simp; first | done | with_reducible rfl)
    try simp only [List.getElem_toArray, List.getElem_cons_succ, List.getElem_cons_zero, Act.put, List.setIfInBounds_toArray, List.set_cons_zero, List.set_cons_succ]
    refine Fx.take (i := 15) (v := ?_) _ rfl (by kernel_rfl) (by kernel_rfl) (by rfl) hSS ?_ ?_
    rotate_left
    · (intro w' hSw; (try dsimp only at hSw); go_simp; first | done | with_reducible rfl)
    try simp only [List.getElem_toArray, List.getElem_cons_succ, List.getElem_cons_zero, Act.put, List.setIfInBounds_toArray, List.set_cons_zero, List.set_cons_succ]
    refine Fx.take (i := 16) (v := ?_) _ rfl (by kernel_rfl) (by kernel_rfl) (by rfl) hSS ?_ ?_
    rotate_left
    · (intro w' hSw; (try dsimp only at hSw); go_simp; first | done | with_reducible rfl)
    try simp only [List.getElem_toArray, List.getElem_cons_succ, List.getElem_cons_zero, Act.put, List.setIfInBounds_toArray, List.set_cons_zero, List.set_cons_succ]
    refine Fx.take (i := 17) (v := ?_) _ rfl (by kernel_rfl) (by kernel_rfl) (by rfl) hSS ?_ ?_
    rotate_left
    · (intro w' hSw; (try dsimp only at hSw); go_simp; first | done | with_reducible rfl)
    try simp only [List.getElem_toArray, List.getElem_cons_succ, List.getElem_cons_zero, Act.put, List.setIfInBounds_toArray, List.set_cons_zero, List.set_cons_succ]
    refine Fx.take (i := 19) (v := ?_) _ rfl (by kernel_rfl) (by kernel_rfl) (by rfl) hSS ?_ ?_
    rotate_left
    · (intro w' hSw; (try dsimp only at hSw); go_simp; first | done | with_reducible rfl)
    try simp only [List.getElem_toArray, List.getElem_cons_succ, List.getElem_cons_zero, Act.put, List.setIfInBounds_toArray, List.set_cons_zero, List.set_cons_succ]
    refine Fx.call' (i := 18) rfl (by kernel_rfl) (by kernel_rfl) (by rfl) ?_
    apply Exists.intro
    apply Exists.intro
    apply Exists.intro
    refine ⟨?_, ?_, ?_⟩
    · (intro w'; go_simp; first | done | (refine ⟨?_, ?_⟩ <;> with_reducible rfl) | with_reducible rfl)
    · (exact fun m w' h => (End_calls g S E w' h.t).mono fun _ _ ⟨he, hw⟩ => ⟨he, hw ▸ h⟩)
    try simp only [List.getElem_toArray, List.getElem_cons_succ, List.getElem_cons_zero, Act.put, List.setIfInBounds_toArray, List.set_cons_zero, List.set_cons_succ]
    refine Fx.call' (i := 20) rfl (by kernel_rfl) (by kernel_rfl) (by rfl) ?_
    apply Exists.intro
    apply Exists.intro
    apply Exists.intro
    refine ⟨?_, ?_, ?_⟩
    · (intro w'; go_simp; first | done | (refine ⟨?_, ?_⟩ <;> with_reducible rfl) | with_reducible rfl)
    · (exact fun m w' h => (rEnd_calls S E w').mono fun _ _ ⟨he, hw⟩ => ⟨he, h.step hw hgl⟩)
    try simp only [List.getElem_toArray, List.getElem_cons_succ, List.getElem_cons_zero, Act.put, List.setIfInBounds_toArray, List.set_cons_zero, List.set_cons_succ]
    refine Fx.take (i := 21) (v := ?_) _ rfl (by kernel_rfl) (by kernel_rfl) (by rfl) hSS ?_ ?_
    rotate_left
    · (intro w' hSw; (try dsimp only at hSw); go_simp; first | done | with_reducible rfl)
    try simp only [List.getElem_toArray, List.getElem_cons_succ, List.getElem_cons_zero, Act.put, List.setIfInBounds_toArray, List.set_cons_zero, List.set_cons_succ]
    refine Fx.take (i := 22) (v := ?_) _ rfl (by kernel_rfl) (by kernel_rfl) (by rfl) hSS ?_ ?_
    rotate_left
    · (intro w' hSw; (try dsimp only at hSw); go_simp; first | done | with_reducible rfl)
    try simp only [List.getElem_toArray, List.getElem_cons_succ, List.getElem_cons_zero, Act.put, List.setIfInBounds_toArray, List.set_cons_zero, List.set_cons_succ]
    refine Fx.put (i := 23) 0 ?_ rfl (by kernel_rfl) (by kernel_rfl) (by rfl) (by kernel_rfl) (by kernel_rfl) ?_ ?_ ?_
    rotate_left
    · (intro w' hC; obtain hSw := hP0 _ hC; (try dsimp only at hSw); go_simp; first | done | with_reducible rfl)
    · (exact fun w' h => h.put hgl)
    try simp only [List.getElem_toArray, List.getElem_cons_succ, List.getElem_cons_zero, Act.put, List.setIfInBounds_toArray, List.set_cons_zero, List.set_cons_succ]
    refine Fx.take (i := 24) (v := ?_) _ rfl (by kernel_rfl) (by kernel_rfl) (by rfl) hSS ?_ ?_
    rotate_left
    · (intro w' hSw; (try dsimp only at hSw); go_simp; first | done | with_reducible rfl)
    try simp only [List.getElem_toArray, List.getElem_cons_succ, List.getElem_cons_zero, Act.put, List.setIfInBounds_toArray, List.set_cons_zero, List.set_cons_succ]
    refine Fx.done 1 (by kernel_rfl) (by kernel_rfl) (fun w' hC => ?_)
    obtain ⟨c0, c1, c2, c3⟩ := Blk2 hC.y
    go_wp2_with fail
    refine bodyPost_ret (v := .tuple #[tapeV S E, .bool true]) (by simp [results, Try.results10, go_sem, c0, c1]) rfl ⟨rfl, hC.md, hC.t⟩
  · have e1 : behS k s e0 most = (flagR s e0).2.1 := by unfold behS; rw [if_neg (by omega)]; rw [if_neg (by omega)]; rw [if_neg (by omega)]; rw [if_neg (by omega)]; 
    have e2 : behE k s e0 most = (flagR s e0).2.2 := by unfold behE; rw [if_neg (by omega)]; rw [if_neg (by omega)]; rw [if_neg (by omega)]; rw [if_neg (by omega)]; 
    rw [e1, e2]
    have h5 : (k : Int) % 5 = 4 := by omega
    have R1 := Lib.hid (fun w => rFlag_calls s e0 w hs)
    have T1 := Lib.hid (fun w hb => Flag_calls g s e0 w hs hb)
    generalize (flagR s e0).2.1 = S at *
    generalize (flagR s e0).2.2 = E at *
    generalize (flagR s e0).1 = n at *
    clear e1 e2 h
    go_enter Try.func10, Try.ntmps10
    go_wp2_with fail
    refine (R1.out _).mono ?_
    rintro e w1 ⟨rfl, hm1⟩
    obtain ⟨b0, b1, b2, b3⟩ := Blk2 (HB0.out.mod hm1 (by simp))
    have HB01 := Lib.hid (HB0.out.mod hm1 (by simp))
    have HB11 := Lib.hid (HB1.out.mod hm1 (by simp))
    have HM1 := Lib.hid (HM0.out.trans0 hm1)
    have HT1 := Lib.hid (HT0.out.mod hm1 (by simp))
    have hz1 : w.heap.size < w1.heap.size := by have := hm1.size; simp at this; omega
    have hz2 : w.heap.size + 1 < w1.heap.size := by have := hm1.size; simp at this; omega
    clear hm1
    go_wp2_with fail
    refine (T1.out _ ?_).mono ?_
    · exact ((HT1.out.far (p := ⟨w.heap.size, 0, none⟩) hne _).far (p := ⟨w.heap.size, 1, none⟩) hne _).alloc _
    rintro e w2 ⟨rfl, hm2, hb2⟩
    have HX := Lib.hid ((((HB01.out.set 0 (.string S)).set 1 (.int .i64 E)).alloc (.cells #[.string S, .int .i64 E] 26)).mod hm2 (by simp; exact Ne.symm hne))
    have HY := Lib.hid ((((HB11.out.far (p := ⟨w.heap.size, 0, none⟩) (by simp) (.string S)).far (p := ⟨w.heap.size, 1, none⟩) (by simp) (.int .i64 E)).alloc (.cells #[.string S, .int .i64 E] 26)).mod hm2 (by simp; omega))
    have HM2 := Lib.hid (((((HM1.out.setCell (p := ⟨w.heap.size, 0, none⟩) (.inr (Nat.le_refl _)) (.string S)).setCell (p := ⟨w.heap.size, 1, none⟩) (.inr (Nat.le_refl _)) (.int .i64 E)).alloc (.cells #[.string S, .int .i64 E] 26)).weak0 (R := [g])).trans hm2 (by simp))
    have HT2 := Lib.hid hb2
    clear hm2 hb2 HT1 HM1 HB01 HB11 b0 b1 b2 b3
    go_wp2_with fail
    refine Fx.wp_region_f [23] (RdC w g S E) (by kernel_rfl) (by decide) ⟨HM2.out.drew, Blk.drew HT2.out, HX.out.drew, HY.out.drew⟩ ?_
    have hSS : ∀ m w', RdC w g S E m w' → _ := fun m w' h => Blk2 h.x
    have hP0 : ∀ w', RdC w g S E 0 w' → _ := fun w' h => And.intro (Blk2 h.x) (Blk2 h.y)
    refine Fx.take (i := 0) (v := ?_) _ rfl (by kernel_rfl) (by kernel_rfl) (by rfl) hSS ?_ ?_
    rotate_left
    · (intro w' hSw; (try dsimp only at hSw); go_simp; first | done | with_reducible rfl)
    try simp only [List.getElem_toArray, List.getElem_cons_succ, List.getElem_cons_zero, Act.put, List.setIfInBounds_toArray, List.set_cons_zero, List.set_cons_succ]
    refine Fx.take (i := 1) (v := ?_) _ rfl (by kernel_rfl) (by kernel_rfl) (by rfl) hSS ?_ ?_
    rotate_left
    · (intro w' hSw; (try dsimp only at hSw); go_simp; first | done | with_reducible rfl)
    try simp only [List.getElem_toArray, List.getElem_cons_succ, List.getElem_cons_zero, Act.put, List.setIfInBounds_toArray, List.set_cons_zero, List.set_cons_succ]
    refine Fx.take (i := 2) (v := ?_) _ rfl (by kernel_rfl) (by kernel_rfl) (by rfl) hSS ?_ ?_
    rotate_left
    · (intro w' hSw; (try dsimp only at hSw); go_simp; first | done | with_reducible rfl)
    try simp only [List.getElem_toArray, List.getElem_cons_succ, List.getElem_cons_zero, Act.put, List.setIfInBounds_toArray, List.set_cons_zero, List.set_cons_succ]
    refine Fx.take (i := 3) (v := ?_) _ rfl (by kernel_rfl) (by kernel_rfl) (by rfl) hSS ?_ ?_
    rotate_left
    · (intro w' hSw; (try dsimp only at hSw); go_simp; first | done | with_reducible rfl)
    try simp only [List.getElem_toArray, List.getElem_cons_succ, List.getElem_cons_zero, Act.put, List.setIfInBounds_toArray, List.set_cons_zero, List.set_cons_succ]
    refine Fx.take (i := 5) (v := ?_) _ rfl (by kernel_rfl) (by kernel_rfl) (by rfl) hSS ?_ ?_
    rotate_left
    · (intro w' hSw; (try dsimp only at hSw); go_simp; first | done | with_reducible rfl)
    try simp only [List.getElem_toArray, List.getElem_cons_succ, List.getElem_cons_zero, Act.put, List.setIfInBounds_toArray, List.set_cons_zero, List.set_cons_succ]
    refine Fx.take (i := 6) (v := ?_) _ rfl (by kernel_rfl) (by kernel_rfl) (by rfl) hSS ?_ ?_
    rotate_left
    · (intro w' hSw; (try dsimp only at hSw); go_simp; first | done | with_reducible rfl)
    try simp only [List.getElem_toArray, List.getElem_cons_succ, List.getElem_cons_zero, Act.put, List.setIfInBounds_toArray, List.set_cons_zero, List.set_cons_succ]
    refine Fx.call' (i := 4) rfl (by kernel_rfl) (by kernel_rfl) (by rfl) ?_
    apply Exists.intro
    apply Exists.intro
    apply Exists.intro
    refine ⟨?_, ?_, ?_⟩
    · (intro w'; go_simp; first | done | (refine ⟨?_, ?_⟩ <;> with_reducible rfl) | with_reducible rfl)
    · (exact fun m w' h => (Rest_calls g S E w' h.t).mono fun _ _ ⟨he, hw⟩ => ⟨he, hw ▸ h⟩)
    try simp only [List.getElem_toArray, List.getElem_cons_succ, List.getElem_cons_zero, Act.put, List.setIfInBounds_toArray, List.set_cons_zero, List.set_cons_succ]
    refine Fx.take (i := 7) (v := ?_) _ rfl (by kernel_rfl) (by kernel_rfl) (by rfl) hSS ?_ ?_
    rotate_left
    · (intro w' hSw; (try dsimp only at hSw); go_simp; first | done | with_reducible rfl)
    try simp only [List.getElem_toArray, List.getElem_cons_succ, List.getElem_cons_zero, Act.put, List.setIfInBounds_toArray, List.set_cons_zero, List.set_cons_succ]
    refine Fx.take (i := 8) (v := ?_) _ rfl (by kernel_rfl) (by kernel_rfl) (by rfl) hSS ?_ ?_
    rotate_left
    · (intro w' hSw; (try dsimp only at hSw); go_simp; first | done | with_reducible rfl)
    try simp only [List.getElem_toArray, List.getElem_cons_succ, List.getElem_cons_zero, Act.put, List.setIfInBounds_toArray, List.set_cons_zero, List.set_cons_succ]
    refine Fx.take (i := 9) (v := ?_) _ rfl (by kernel_rfl) (by kernel_rfl) (by rfl) hSS ?_ ?_
    rotate_left
    · (intro w' hSw; (try dsimp only at hSw); go_simp; first | done | with_reducible rfl)
    try simp only [List.getElem_toArray, List.getElem_cons_succ, List.getElem_cons_zero, Act.put, List.setIfInBounds_toArray, List.set_cons_zero, List.set_cons_succ]
    refine Fx.take (i := 10) (v := ?_) _ rfl (by kernel_rfl) (by kernel_rfl) (by rfl) hSS ?_ ?_
    rotate_left
    · (intro w' hSw; (try dsimp only at hSw); go_simp; first | done | with_reducible rfl)
    try simp only [List.getElem_toArray, List.getElem_cons_succ, List.getElem_cons_zero, Act.put, List.setIfInBounds_toArray, List.set_cons_zero, List.set_cons_succ]
    refine Fx.take (i := 12) (v := ?_) _ rfl (by kernel_rfl) (by kernel_rfl) (by rfl) hSS ?_ ?_
    rotate_left
    · (intro w' hSw; (try dsimp only at hSw); go_simp; first | done | with_reducible rfl)
    try simp only [List.getElem_toArray, List.getElem_cons_succ, List.getElem_cons_zero, Act.put, List.setIfInBounds_toArray, List.set_cons_zero, List.set_cons_succ]
    refine Fx.take (i := 13) (v := ?_) _ rfl (by kernel_rfl) (by kernel_rfl) (by rfl) hSS ?_ ?_
    rotate_left
    · (intro w' hSw; (try dsimp only at hSw); go_simp; first | done | with_reducible rfl)
    try simp only [List.getElem_toArray, List.getElem_cons_succ, List.getElem_cons_zero, Act.put, List.setIfInBounds_toArray, List.set_cons_zero, List.set_cons_succ]
    refine Fx.call' (i := 11) rfl (by kernel_rfl) (by kernel_rfl) (by rfl) ?_
    apply Exists.intro
    apply Exists.intro
    apply Exists.intro
    refine ⟨?_, ?_, ?_⟩
    · (intro w'; go_simp; first | done | (refine ⟨?_, ?_⟩ <;> with_reducible rfl) | with_reducible rfl)
    · (exact fun m w' h => (Err_calls g S E w' h.t).mono fun _ _ ⟨he, hw⟩ => ⟨he, hw ▸ h⟩)
    try simp only [List.getElem_toArray, List.getElem_cons_succ, List.getElem_cons_zero, Act.put, List.setIfInBounds_toArray, List.set_cons_zero, List.set_cons_succ]
    refine Fx.take (i := 14) (v := ?_) _ rfl (by kernel_rfl) (by kernel_rfl) (by rfl) hSS ?_ ?_
    rotate_left
    · (intro w' hSw; (try dsimp only at hSw); go_simp; first | done | with_reducible rfl)
    try simp only [List.getElem_toArray, List.getElem_cons_succ, List.getElem_cons_zero, Act.put, List.setIfInBounds_toArray, List.set_cons_zero, List.set_cons_succ]
    refine Fx.take (i := 15) (v := ?_) _ rfl (by kernel_rfl) (by kernel_rfl) (by rfl) hSS ?_ ?_
    rotate_left
    · (intro w' hSw; (try dsimp only at hSw); go_simp; first | done | with_reducible rfl)
    try simp only [List.getElem_toArray, List.getElem_cons_succ, List.getElem_cons_zero, Act.put, List.setIfInBounds_toArray, List.set_cons_zero, List.set_cons_succ]
    refine Fx.take (i := 16) (v := ?_) _ rfl (by kernel_rfl) (by kernel_rfl) (by rfl) hSS ?_ ?_
    rotate_left
    · (intro w' hSw; (try dsimp only at hSw); go_simp; first | done | with_reducible rfl)
    try simp only [List.getElem_toArray, List.getElem_cons_succ, List.getElem_cons_zero, Act.put, List.setIfInBounds_toArray, List.set_cons_zero, List.set_cons_succ]
    refine Fx.take (i := 17) (v := ?_) _ rfl (by kernel_rfl) (by kernel_rfl) (by rfl) hSS ?_ ?_
    rotate_left
    · (intro w' hSw; (try dsimp only at hSw); go_simp; first | done | with_reducible rfl)
    try simp only [List.getElem_toArray, List.getElem_cons_succ, List.getElem_cons_zero, Act.put, List.setIfInBounds_toArray, List.set_cons_zero, List.set_cons_succ]
    refine Fx.take (i := 19) (v := ?_) _ rfl (by kernel_rfl) (by kernel_rfl) (by rfl) hSS ?_ ?_
    rotate_left
    · (intro w' hSw; (try dsimp only at hSw); go_simp; first | done | with_reducible rfl)
    try simp only [List.getElem_toArray, List.getElem_cons_succ, List.getElem_cons_zero, Act.put, List.setIfInBounds_toArray, List.set_cons_zero, List.set_cons_succ]
    refine Fx.call' (i := 18) rfl (by kernel_rfl) (by kernel_rfl) (by rfl) ?_
    apply Exists.intro
    apply Exists.intro
    apply Exists.intro
    refine ⟨?_, ?_, ?_⟩
    · (intro w'; go_simp; first | done | (refine ⟨?_, ?_⟩ <;> with_reducible rfl) | with_reducible rfl)
    · (exact fun m w' h => (End_calls g S E w' h.t).mono fun _ _ ⟨he, hw⟩ => ⟨he, hw ▸ h⟩)
    try simp only [List.getElem_toArray, List.getElem_cons_succ, List.getElem_cons_zero, Act.put, List.setIfInBounds_toArray, List.set_cons_zero, List.set_cons_succ]
    refine Fx.call' (i := 20) rfl (by kernel_rfl) (by kernel_rfl) (by rfl) ?_
    apply Exists.intro
    apply Exists.intro
    apply Exists.intro
    refine ⟨?_, ?_, ?_⟩
    · (intro w'; go_simp; first | done | (refine ⟨?_, ?_⟩ <;> with_reducible rfl) | with_reducible rfl)
    · (exact fun m w' h => (rEnd_calls S E w').mono fun _ _ ⟨he, hw⟩ => ⟨he, h.step hw hgl⟩)
    try simp only [List.getElem_toArray, List.getElem_cons_succ, List.getElem_cons_zero, Act.put, List.setIfInBounds_toArray, List.set_cons_zero, List.set_cons_succ]
    refine Fx.take (i := 21) (v := ?_) _ rfl (by kernel_rfl) (by kernel_rfl) (by rfl) hSS ?_ ?_
    rotate_left
    · (intro w' hSw; (try dsimp only at hSw); go_simp; first | done | with_reducible rfl)
    try simp only [List.getElem_toArray, List.getElem_cons_succ, List.getElem_cons_zero, Act.put, List.setIfInBounds_toArray, List.set_cons_zero, List.set_cons_succ]
    refine Fx.take (i := 22) (v := ?_) _ rfl (by kernel_rfl) (by kernel_rfl) (by rfl) hSS ?_ ?_
    rotate_left
    · (intro w' hSw; (try dsimp only at hSw); go_simp; first | done | with_reducible rfl)
    try simp only [List.getElem_toArray, List.getElem_cons_succ, List.getElem_cons_zero, Act.put, List.setIfInBounds_toArray, List.set_cons_zero, List.set_cons_succ]
    refine Fx.put (i := 23) 0 ?_ rfl (by kernel_rfl) (by kernel_rfl) (by rfl) (by kernel_rfl) (by kernel_rfl) ?_ ?_ ?_
    rotate_left
    · (intro w' hC; obtain hSw := hP0 _ hC; (try dsimp only at hSw); go_simp; first | done | with_reducible rfl)
    · (exact fun w' h => h.put hgl)
    try simp only [List.getElem_toArray, List.getElem_cons_succ, List.getElem_cons_zero, Act.put, List.setIfInBounds_toArray, List.set_cons_zero, List.set_cons_succ]
    refine Fx.take (i := 24) (v := ?_) _ rfl (by kernel_rfl) (by kernel_rfl) (by rfl) hSS ?_ ?_
    rotate_left
    · (intro w' hSw; (try dsimp only at hSw); go_simp; first | done | with_reducible rfl)
    try simp only [List.getElem_toArray, List.getElem_cons_succ, List.getElem_cons_zero, Act.put, List.setIfInBounds_toArray, List.set_cons_zero, List.set_cons_succ]
    refine Fx.done 1 (by kernel_rfl) (by kernel_rfl) (fun w' hC => ?_)
    obtain ⟨c0, c1, c2, c3⟩ := Blk2 hC.y
    go_wp2_with fail
    refine bodyPost_ret (v := .tuple #[tapeV S E, .bool true]) (by simp [results, Try.results10, go_sem, c0, c1]) rfl ⟨rfl, hC.md, hC.t⟩
end Go.Proofs.Ytfabmgdfapioiaa.Bits
