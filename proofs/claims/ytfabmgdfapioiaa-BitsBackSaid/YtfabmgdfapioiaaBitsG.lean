/- What is written is read again: plain facts, and the contract of 'again' (BitsBack). -/
import Derived.Test.YtfabmgdfapioiaaBitsC
import Derived.Test.YtfabmgdfapioiaaBu
import Derived.Test.YtfabmgdfapioiaaFx
import Derived.Test.YtfabmgdfapioiaaQuiet
namespace Go.Proofs.Ytfabmgdfapioiaa.Bits
open Go.RowKit Mem
set_option linter.unusedSimpArgs false
set_option linter.unusedVariables false
set_option maxRecDepth 100000

theorem canB2 (f : Nat) : canB (canB f) = canB f := by
  unfold canB
  by_cases h : Fl.nanB f = true
  · rw [if_pos h]; split <;> rfl
  · rw [if_neg h, if_neg h]
theorem num_back (n : Nat) (hn : n < 18446744073709551616) (r : ByteArray) : tN (Bt.numS n ++ r) 0 = n ∧ tS (Bt.numS n ++ r) 0 = r ∧ tE (Bt.numS n ++ r) 0 = 0 := by
  have h := Bt.numD_app n hn r
  unfold tN tS tE
  rw [if_pos rfl, if_pos rfl, if_pos rfl, h]
  dsimp only
  rw [Bt.extract_rest]
  exact ⟨rfl, rfl, rfl⟩
theorem text_back (x r : ByteArray) (hx : x.size < 18446744073709551616) : textR ((Bt.numS x.size ++ x) ++ r) 0 x.size = (x, r, 0) := by
  rw [ByteArray.append_assoc]
  have h := Bt.numD_app x.size hx (x ++ r)
  have hz : (Bt.numS x.size ++ (x ++ r)).size = (Bt.numS x.size).size + (x.size + r.size) := by rw [ByteArray.size_append, ByteArray.size_append]
  rw [textR0, h]
  dsimp only
  rw [if_neg (by simp), if_neg (by omega), if_neg (by omega)]
  have h1 : (Bt.numS x.size ++ (x ++ r)).extract (Bt.numS x.size).size ((Bt.numS x.size).size + x.size) = x := by
    apply Bt.ext_list
    have e1 := Bt.size_data x
    have e2 := Bt.size_data (Bt.numS x.size)
    rw [Lib.extract_data, Bt.app_data, Bt.app_data, ← e2, List.drop_left, Nat.add_sub_cancel_left, List.take_append_of_le_length (by omega), List.take_of_length_le (by omega)]
  have h2 : (Bt.numS x.size ++ (x ++ r)).extract ((Bt.numS x.size).size + x.size) (Bt.numS x.size ++ (x ++ r)).size = r := by
    have := Bt.extract_rest (Bt.numS x.size ++ x) r
    rw [ByteArray.append_assoc, ByteArray.size_append] at this
    exact this
  rw [h1, h2]
theorem real_back (f : Nat) (hf : f < 18446744073709551616) (r : ByteArray) : realR (realS f ++ r) 0 = (canB f, r, 0) := by
  have hc := canB_lt f hf
  have hs : (realS f).size = 8 := by unfold realS; rw [strOfNums_size, Bt.be_length]
  have hb : Bt.bytesOf (realS f ++ r) 0 8 = Bt.be 8 (canB f) := by
    unfold realS
    rw [Bt.bytesOf_app _ _ _ _ (Bt.be_bytes 8 _) (by rw [Bt.be_length]; omega), List.drop_zero, List.take_of_length_le (by rw [Bt.be_length]; omega)]
  have hv : Bt.val (Bt.be 8 (canB f)) 0 = canB f := by
    rw [Bt.val_be, Nat.zero_mul, Nat.zero_add]
    exact Nat.mod_eq_of_lt (by omega)
  have hn : ¬ (Fl.nanB (canB f) = true ∧ canB f ≠ 9221120237041090561) := by
    rintro ⟨h1, h2⟩
    unfold canB at h1 h2
    by_cases h : Fl.nanB f = true
    · rw [if_pos h] at h2; exact h2 rfl
    · rw [if_neg h] at h1; exact h h1
  unfold realR
  rw [if_neg (by simp), if_neg (by rw [ByteArray.size_append]; omega), hb, hv, if_neg hn]
  have := Bt.extract_rest (realS f) r
  rw [hs] at this
  rw [this]
theorem flag_back (b : Bool) (r : ByteArray) : flagR (flagS b ++ r) 0 = (b, r, 0) := by
  have hz : (flagS b).size = 1 := by cases b <;> rfl
  have hx := Bt.extract_rest (flagS b) r
  rw [hz] at hx
  have hb : Bt.byt (flagS b ++ r) 0 = if b then 1 else 0 := by
    unfold Bt.byt
    rw [Bt.app_data]
    cases b <;> rfl
  unfold flagR
  rw [if_neg (by simp), if_neg (by rw [ByteArray.size_append]; omega), hb, hx]
  cases b <;> rfl

structure AgC (W : World) (g n : Nat) (xs : Array Value) (s r : ByteArray) (m : Nat) (w' : World) : Prop where
  md : Mod W w' [g]
  x : Blk w' n xs 40
  t : TapeAt w' g (match m with | 0 => s | _ + 1 => r) 0
theorem AgC.on {W w' w'' : World} {g n : Nat} {xs : Array Value} {s r : ByteArray} (h : AgC W g n xs s r 0 w') (hm : Mod w' w'' [g]) (ht : TapeAt w'' g r 0) (hgn : n ≠ g) : AgC W g n xs s r 1 w'' :=
  ⟨h.md.trans hm (by simp), h.x.mod hm (by simpa using hgn), ht⟩

theorem Blk6 {w : World} {g : Nat} {a b c d e f : Value} {t : TypeId} (h : Blk w g #[a, b, c, d, e, f] t) : w.cell? ⟨g, 0, none⟩ = some a ∧ w.cell? ⟨g, 1, none⟩ = some b ∧ w.cell? ⟨g, 2, none⟩ = some c ∧ w.cell? ⟨g, 3, none⟩ = some d ∧ w.cell? ⟨g, 4, none⟩ = some e ∧ w.cell? ⟨g, 5, none⟩ = some f := ⟨h.cell 0, h.cell 1, h.cell 2, h.cell 3, h.cell 4, h.cell 5⟩

set_option maxHeartbeats 4000000 in
theorem again_calls (g : Nat) (k n : Nat) (m : Int) (f : Nat) (s : ByteArray) (b : Bool) (r : ByteArray) (hk : k < 256) (hn : n < 18446744073709551616) (m1 : -9223372036854775808 ≤ m) (m2 : m ≤ 9223372036854775807) (hf : f < 18446744073709551616) (hs : s.size ≤ 140737488355328) (w : World)
    (hz : (wrS k n m f s b ++ r).size ≤ 9007199254740992) (hb : TapeAt w g (wrS k n m f s b ++ r) 0) :
    Calls Try.prog 12 #[.pointer (some ⟨g, 0, none⟩), thingV k n m f s b] w fun e w' => e = .returned (.bool true) ∧ Mod w w' [g] ∧ TapeAt w' g r 0 := by
  have HB0 := Lib.hid (Blk.new w #[.int .u8 k, .int .u64 n, .int .i64 m, .float .f64 f, .string s, .bool b] 40)
  have HT0 := Lib.hid (Blk.alloc hb (.cells #[.int .u8 k, .int .u64 n, .int .i64 m, .float .f64 f, .string s, .bool b] 40))
  have HM0 := Lib.hid ((Mod.refl w [g]).alloc (.cells #[.int .u8 k, .int .u64 n, .int .i64 m, .float .f64 f, .string s, .bool b] 40))
  have hgl := hb.lt
  have hne : w.heap.size ≠ g := by omega
  clear hb
  have hr : k % 5 = 0 ∨ k % 5 = 1 ∨ k % 5 = 2 ∨ k % 5 = 3 ∨ k % 5 = 4 := by omega
  rcases hr with h | h | h | h | h
  · have e1 : wrS k n m f s b = Bt.numS n := by unfold wrS;  rw [if_pos h]
    rw [e1] at hz HT0
    obtain ⟨e2, e3, e4⟩ := num_back n hn r
    have T1 := Lib.hid (fun w hb => Num_calls g (Bt.numS n ++ r) 0 w hz hb)
    rw [e2, e3, e4] at T1
    have h5 : (k : Int) % 5 = 0 := by omega
    generalize Bt.numS n ++ r = S at *
    clear e1 e2 e3 e4 h hz hn m1 m2 hf hs
    go_enter Try.func12, Try.ntmps12
    go_wp2_with fail
    generalize w.alloc _ = W at HB0 HT0 HM0 ⊢
    obtain ⟨b0, b1, b2, b3, b4, b5⟩ := Blk6 HB0.out
    go_wp2_with fail
    refine Fx.wp_region_f [1] (AgC W g w.heap.size #[.int .u8 k, .int .u64 n, .int .i64 m, .float .f64 f, .string s, .bool b] S r) (by kernel_rfl) (by decide) ⟨(Mod.refl _ _).drew, HB0.out.drew, Blk.drew HT0.out⟩ ?_
    have hSS : ∀ m' w', AgC W g w.heap.size #[.int .u8 k, .int .u64 n, .int .i64 m, .float .f64 f, .string s, .bool b] S r m' w' → _ := fun m' w' h => Blk6 h.x
    refine Fx.take (i := 0) (v := ?_) _ rfl (by kernel_rfl) (by kernel_rfl) (by rfl) hSS ?_ ?_
    rotate_left
    · (intro w' hSw; (try dsimp only at hSw); go_simp; first | done | with_reducible rfl)
    try simp only [List.getElem_toArray, List.getElem_cons_succ, List.getElem_cons_zero, Act.put, List.setIfInBounds_toArray, List.set_cons_zero, List.set_cons_succ]
    refine Fx.take (i := 2) (v := ?_) _ rfl (by kernel_rfl) (by kernel_rfl) (by rfl) hSS ?_ ?_
    rotate_left
    · (intro w' hSw; (try dsimp only at hSw); go_simp; first | done | with_reducible rfl)
    try simp only [List.getElem_toArray, List.getElem_cons_succ, List.getElem_cons_zero, Act.put, List.setIfInBounds_toArray, List.set_cons_zero, List.set_cons_succ]
    refine Fx.take (i := 3) (v := ?_) _ rfl (by kernel_rfl) (by kernel_rfl) (by rfl) hSS ?_ ?_
    rotate_left
    · (intro w' hSw; (try dsimp only at hSw); go_simp; first | done | with_reducible rfl)
    try simp only [List.getElem_toArray, List.getElem_cons_succ, List.getElem_cons_zero, Act.put, List.setIfInBounds_toArray, List.set_cons_zero, List.set_cons_succ]
    refine Fx.eff' (i := 1) 0 rfl (by kernel_rfl) (by kernel_rfl) (by rfl) (by kernel_rfl) (by kernel_rfl) ?_
    apply Exists.intro
    apply Exists.intro
    apply Exists.intro
    refine ⟨?_, ?_, ?_⟩
    · (intro w'; go_simp; first | done | (refine ⟨?_, ?_⟩ <;> with_reducible rfl) | with_reducible rfl)
    · (exact fun w' h => (T1.out w' h.t).mono fun _ _ ⟨he, hw, ht⟩ => ⟨he, h.on hw ht hne⟩)
    try simp only [List.getElem_toArray, List.getElem_cons_succ, List.getElem_cons_zero, Act.put, List.setIfInBounds_toArray, List.set_cons_zero, List.set_cons_succ]
    refine Fx.take (i := 4) (v := ?_) _ rfl (by kernel_rfl) (by kernel_rfl) (by rfl) hSS ?_ ?_
    rotate_left
    · (intro w' hSw; (try dsimp only at hSw); go_simp; first | done | with_reducible rfl)
    try simp only [List.getElem_toArray, List.getElem_cons_succ, List.getElem_cons_zero, Act.put, List.setIfInBounds_toArray, List.set_cons_zero, List.set_cons_succ]
    refine Fx.take (i := 5) (v := ?_) _ rfl (by kernel_rfl) (by kernel_rfl) (by rfl) hSS ?_ ?_
    rotate_left
    · (intro w' hSw; (try dsimp only at hSw); go_simp; first | done | with_reducible rfl)
    try simp only [List.getElem_toArray, List.getElem_cons_succ, List.getElem_cons_zero, Act.put, List.setIfInBounds_toArray, List.set_cons_zero, List.set_cons_succ]
    refine Fx.done 1 (by kernel_rfl) (by kernel_rfl) (fun w2 hC => ?_)
    go_wp2_with fail
    go_ret
    exact ⟨rfl, HM0.out.trans hC.md (by simp), hC.t⟩
  · have e1 : wrS k n m f s b = Bt.numS (fold m) := by unfold wrS; rw [if_neg (by omega)]; rw [if_pos h]
    rw [e1] at hz HT0
    obtain ⟨e2, e3, e4⟩ := num_back (fold m) (fold_lt m m1 m2) r
    have T1 := Lib.hid (fun w hb => Int_calls g (Bt.numS (fold m) ++ r) 0 w hz hb)
    rw [e2, e3, e4, unfoldI_fold] at T1
    have h5 : (k : Int) % 5 = 1 := by omega
    generalize Bt.numS (fold m) ++ r = S at *
    clear e1 e2 e3 e4 h hz hn m1 m2 hf hs
    go_enter Try.func12, Try.ntmps12
    go_wp2_with fail
    generalize w.alloc _ = W at HB0 HT0 HM0 ⊢
    obtain ⟨b0, b1, b2, b3, b4, b5⟩ := Blk6 HB0.out
    go_wp2_with fail
    refine Fx.wp_region_f [1] (AgC W g w.heap.size #[.int .u8 k, .int .u64 n, .int .i64 m, .float .f64 f, .string s, .bool b] S r) (by kernel_rfl) (by decide) ⟨(Mod.refl _ _).drew, HB0.out.drew, Blk.drew HT0.out⟩ ?_
    have hSS : ∀ m' w', AgC W g w.heap.size #[.int .u8 k, .int .u64 n, .int .i64 m, .float .f64 f, .string s, .bool b] S r m' w' → _ := fun m' w' h => Blk6 h.x
    refine Fx.take (i := 0) (v := ?_) _ rfl (by kernel_rfl) (by kernel_rfl) (by rfl) hSS ?_ ?_
    rotate_left
    · (intro w' hSw; (try dsimp only at hSw); go_simp; first | done | with_reducible rfl)
    try simp only [List.getElem_toArray, List.getElem_cons_succ, List.getElem_cons_zero, Act.put, List.setIfInBounds_toArray, List.set_cons_zero, List.set_cons_succ]
    refine Fx.take (i := 2) (v := ?_) _ rfl (by kernel_rfl) (by kernel_rfl) (by rfl) hSS ?_ ?_
    rotate_left
    · (intro w' hSw; (try dsimp only at hSw); go_simp; first | done | with_reducible rfl)
    try simp only [List.getElem_toArray, List.getElem_cons_succ, List.getElem_cons_zero, Act.put, List.setIfInBounds_toArray, List.set_cons_zero, List.set_cons_succ]
    refine Fx.take (i := 3) (v := ?_) _ rfl (by kernel_rfl) (by kernel_rfl) (by rfl) hSS ?_ ?_
    rotate_left
    · (intro w' hSw; (try dsimp only at hSw); go_simp; first | done | with_reducible rfl)
    try simp only [List.getElem_toArray, List.getElem_cons_succ, List.getElem_cons_zero, Act.put, List.setIfInBounds_toArray, List.set_cons_zero, List.set_cons_succ]
    refine Fx.eff' (i := 1) 0 rfl (by kernel_rfl) (by kernel_rfl) (by rfl) (by kernel_rfl) (by kernel_rfl) ?_
    apply Exists.intro
    apply Exists.intro
    apply Exists.intro
    refine ⟨?_, ?_, ?_⟩
    · (intro w'; go_simp; first | done | (refine ⟨?_, ?_⟩ <;> with_reducible rfl) | with_reducible rfl)
    · (exact fun w' h => (T1.out w' h.t).mono fun _ _ ⟨he, hw, ht⟩ => ⟨he, h.on hw ht hne⟩)
    try simp only [List.getElem_toArray, List.getElem_cons_succ, List.getElem_cons_zero, Act.put, List.setIfInBounds_toArray, List.set_cons_zero, List.set_cons_succ]
    refine Fx.take (i := 4) (v := ?_) _ rfl (by kernel_rfl) (by kernel_rfl) (by rfl) hSS ?_ ?_
    rotate_left
    · (intro w' hSw; (try dsimp only at hSw); go_simp; first | done | with_reducible rfl)
    try simp only [List.getElem_toArray, List.getElem_cons_succ, List.getElem_cons_zero, Act.put, List.setIfInBounds_toArray, List.set_cons_zero, List.set_cons_succ]
    refine Fx.take (i := 5) (v := ?_) _ rfl (by kernel_rfl) (by kernel_rfl) (by rfl) hSS ?_ ?_
    rotate_left
    · (intro w' hSw; (try dsimp only at hSw); go_simp; first | done | with_reducible rfl)
    try simp only [List.getElem_toArray, List.getElem_cons_succ, List.getElem_cons_zero, Act.put, List.setIfInBounds_toArray, List.set_cons_zero, List.set_cons_succ]
    refine Fx.done 1 (by kernel_rfl) (by kernel_rfl) (fun w2 hC => ?_)
    go_wp2_with fail
    go_ret
    exact ⟨rfl, HM0.out.trans hC.md (by simp), hC.t⟩
  · have e1 : wrS k n m f s b = realS f := by unfold wrS; rw [if_neg (by omega)]; rw [if_neg (by omega)]; rw [if_pos h]
    rw [e1] at hz HT0
    have e2 := real_back f hf r
    have T1 := Lib.hid (fun w hb => Real_calls g (realS f ++ r) 0 w hz hb)
    rw [e2] at T1
    dsimp only at T1
    have B1 := Lib.hid (fun w => refbits_calls (canB f) w)
    rw [canB2] at B1
    have B2 := Lib.hid (fun w => refbits_calls f w)
    have h5 : (k : Int) % 5 = 2 := by omega
    generalize realS f ++ r = S at *
    clear e1 e2 h hz hn m1 m2 hf hs
    go_enter Try.func12, Try.ntmps12
    go_wp2_with fail
    generalize w.alloc _ = W at HB0 HT0 HM0 ⊢
    obtain ⟨b0, b1, b2, b3, b4, b5⟩ := Blk6 HB0.out
    go_wp2_with fail
    refine Fx.wp_region_f [1] (AgC W g w.heap.size #[.int .u8 k, .int .u64 n, .int .i64 m, .float .f64 f, .string s, .bool b] S r) (by kernel_rfl) (by decide) ⟨(Mod.refl _ _).drew, HB0.out.drew, Blk.drew HT0.out⟩ ?_
    have hSS : ∀ m' w', AgC W g w.heap.size #[.int .u8 k, .int .u64 n, .int .i64 m, .float .f64 f, .string s, .bool b] S r m' w' → _ := fun m' w' h => Blk6 h.x
    refine Fx.take (i := 0) (v := ?_) _ rfl (by kernel_rfl) (by kernel_rfl) (by rfl) hSS ?_ ?_
    rotate_left
    · (intro w' hSw; (try dsimp only at hSw); go_simp; first | done | with_reducible rfl)
    try simp only [List.getElem_toArray, List.getElem_cons_succ, List.getElem_cons_zero, Act.put, List.setIfInBounds_toArray, List.set_cons_zero, List.set_cons_succ]
    refine Fx.take (i := 3) (v := ?_) _ rfl (by kernel_rfl) (by kernel_rfl) (by rfl) hSS ?_ ?_
    rotate_left
    · (intro w' hSw; (try dsimp only at hSw); go_simp; first | done | with_reducible rfl)
    try simp only [List.getElem_toArray, List.getElem_cons_succ, List.getElem_cons_zero, Act.put, List.setIfInBounds_toArray, List.set_cons_zero, List.set_cons_succ]
    refine Fx.take (i := 4) (v := ?_) _ rfl (by kernel_rfl) (by kernel_rfl) (by rfl) hSS ?_ ?_
    rotate_left
    · (intro w' hSw; (try dsimp only at hSw); go_simp; first | done | with_reducible rfl)
    try simp only [List.getElem_toArray, List.getElem_cons_succ, List.getElem_cons_zero, Act.put, List.setIfInBounds_toArray, List.set_cons_zero, List.set_cons_succ]
    refine Fx.eff' (i := 1) 0 rfl (by kernel_rfl) (by kernel_rfl) (by rfl) (by kernel_rfl) (by kernel_rfl) ?_
    apply Exists.intro
    apply Exists.intro
    apply Exists.intro
    refine ⟨?_, ?_, ?_⟩
    · (intro w'; go_simp; first | done | (refine ⟨?_, ?_⟩ <;> with_reducible rfl) | with_reducible rfl)
    · (exact fun w' h => (T1.out w' h.t).mono fun _ _ ⟨he, hw, ht⟩ => ⟨he, h.on hw ht hne⟩)
    try simp only [List.getElem_toArray, List.getElem_cons_succ, List.getElem_cons_zero, Act.put, List.setIfInBounds_toArray, List.set_cons_zero, List.set_cons_succ]
    refine Fx.call' (i := 2) rfl (by kernel_rfl) (by kernel_rfl) (by rfl) ?_
    apply Exists.intro
    apply Exists.intro
    apply Exists.intro
    refine ⟨?_, ?_, ?_⟩
    · (intro w'; go_simp; first | done | (refine ⟨?_, ?_⟩ <;> with_reducible rfl) | with_reducible rfl)
    · (exact fun m' w' h => (B1.out w').mono fun _ _ ⟨he, hw⟩ => ⟨he, hw ▸ h⟩)
    try simp only [List.getElem_toArray, List.getElem_cons_succ, List.getElem_cons_zero, Act.put, List.setIfInBounds_toArray, List.set_cons_zero, List.set_cons_succ]
    refine Fx.call' (i := 5) rfl (by kernel_rfl) (by kernel_rfl) (by rfl) ?_
    apply Exists.intro
    apply Exists.intro
    apply Exists.intro
    refine ⟨?_, ?_, ?_⟩
    · (intro w'; go_simp; first | done | (refine ⟨?_, ?_⟩ <;> with_reducible rfl) | with_reducible rfl)
    · (exact fun m' w' h => (B2.out w').mono fun _ _ ⟨he, hw⟩ => ⟨he, hw ▸ h⟩)
    try simp only [List.getElem_toArray, List.getElem_cons_succ, List.getElem_cons_zero, Act.put, List.setIfInBounds_toArray, List.set_cons_zero, List.set_cons_succ]
    refine Fx.take (i := 6) (v := ?_) _ rfl (by kernel_rfl) (by kernel_rfl) (by rfl) hSS ?_ ?_
    rotate_left
    · (intro w' hSw; (try dsimp only at hSw); go_simp; first | done | with_reducible rfl)
    try simp only [List.getElem_toArray, List.getElem_cons_succ, List.getElem_cons_zero, Act.put, List.setIfInBounds_toArray, List.set_cons_zero, List.set_cons_succ]
    refine Fx.take (i := 7) (v := ?_) _ rfl (by kernel_rfl) (by kernel_rfl) (by rfl) hSS ?_ ?_
    rotate_left
    · (intro w' hSw; (try dsimp only at hSw); go_simp; first | done | with_reducible rfl)
    try simp only [List.getElem_toArray, List.getElem_cons_succ, List.getElem_cons_zero, Act.put, List.setIfInBounds_toArray, List.set_cons_zero, List.set_cons_succ]
    refine Fx.done 1 (by kernel_rfl) (by kernel_rfl) (fun w2 hC => ?_)
    go_wp2_with fail
    go_ret
    exact ⟨rfl, HM0.out.trans hC.md (by simp), hC.t⟩
  · have e1 : wrS k n m f s b = (Bt.numS s.size ++ s) := by unfold wrS; rw [if_neg (by omega)]; rw [if_neg (by omega)]; rw [if_neg (by omega)]; rw [if_pos h]
    rw [e1] at hz HT0
    have e2 := text_back s r (by omega)
    have T1 := Lib.hid (fun w hb => Text_calls g ((Bt.numS s.size ++ s) ++ r) 0 s.size (by omega) (by omega) w hz hb)
    rw [e2] at T1
    dsimp only at T1
    have hs' : (s.size : Int) ≤ 140737488355328 := by omega
    have h5 : (k : Int) % 5 = 3 := by omega
    generalize (Bt.numS s.size ++ s) ++ r = S at *
    clear e1 e2 h hz hn m1 m2 hf hs
    go_enter Try.func12, Try.ntmps12
    go_wp2_with fail
    generalize w.alloc _ = W at HB0 HT0 HM0 ⊢
    obtain ⟨b0, b1, b2, b3, b4, b5⟩ := Blk6 HB0.out
    go_wp2_with fail
    refine Fx.wp_region_f [4] (AgC W g w.heap.size #[.int .u8 k, .int .u64 n, .int .i64 m, .float .f64 f, .string s, .bool b] S r) (by kernel_rfl) (by decide) ⟨(Mod.refl _ _).drew, HB0.out.drew, Blk.drew HT0.out⟩ ?_
    have hSS : ∀ m' w', AgC W g w.heap.size #[.int .u8 k, .int .u64 n, .int .i64 m, .float .f64 f, .string s, .bool b] S r m' w' → _ := fun m' w' h => Blk6 h.x
    refine Fx.take (i := 0) (v := ?_) _ rfl (by kernel_rfl) (by kernel_rfl) (by rfl) hSS ?_ ?_
    rotate_left
    · (intro w' hSw; (try dsimp only at hSw); go_simp; first | done | with_reducible rfl)
    try simp only [List.getElem_toArray, List.getElem_cons_succ, List.getElem_cons_zero, Act.put, List.setIfInBounds_toArray, List.set_cons_zero, List.set_cons_succ]
    refine Fx.take (i := 1) (v := ?_) _ rfl (by kernel_rfl) (by kernel_rfl) (by rfl) hSS ?_ ?_
    rotate_left
    · (intro w' hSw; (try dsimp only at hSw); go_simp; first | done | with_reducible rfl)
    try simp only [List.getElem_toArray, List.getElem_cons_succ, List.getElem_cons_zero, Act.put, List.setIfInBounds_toArray, List.set_cons_zero, List.set_cons_succ]
    refine Fx.take (i := 2) (v := ?_) _ rfl (by kernel_rfl) (by kernel_rfl) (by rfl) hSS ?_ ?_
    rotate_left
    · (intro w' hSw; (try dsimp only at hSw); go_simp; first | done | with_reducible rfl)
    try simp only [List.getElem_toArray, List.getElem_cons_succ, List.getElem_cons_zero, Act.put, List.setIfInBounds_toArray, List.set_cons_zero, List.set_cons_succ]
    refine Fx.take (i := 3) (v := ?_) _ rfl (by kernel_rfl) (by kernel_rfl) (by rfl) hSS ?_ ?_
    rotate_left
    · (intro w' hSw; (try dsimp only at hSw); go_simp; first | done | with_reducible rfl)
    try simp only [List.getElem_toArray, List.getElem_cons_succ, List.getElem_cons_zero, Act.put, List.setIfInBounds_toArray, List.set_cons_zero, List.set_cons_succ]
    refine Fx.take (i := 5) (v := ?_) _ rfl (by kernel_rfl) (by kernel_rfl) (by rfl) hSS ?_ ?_
    rotate_left
    · (intro w' hSw; (try dsimp only at hSw); go_simp; first | done | with_reducible rfl)
    try simp only [List.getElem_toArray, List.getElem_cons_succ, List.getElem_cons_zero, Act.put, List.setIfInBounds_toArray, List.set_cons_zero, List.set_cons_succ]
    refine Fx.take (i := 6) (v := ?_) _ rfl (by kernel_rfl) (by kernel_rfl) (by rfl) hSS ?_ ?_
    rotate_left
    · (intro w' hSw; (try dsimp only at hSw); go_simp; first | done | with_reducible rfl)
    try simp only [List.getElem_toArray, List.getElem_cons_succ, List.getElem_cons_zero, Act.put, List.setIfInBounds_toArray, List.set_cons_zero, List.set_cons_succ]
    refine Fx.eff' (i := 4) 0 rfl (by kernel_rfl) (by kernel_rfl) (by rfl) (by kernel_rfl) (by kernel_rfl) ?_
    apply Exists.intro
    apply Exists.intro
    apply Exists.intro
    refine ⟨?_, ?_, ?_⟩
    · (intro w'; go_simp; first | done | (refine ⟨?_, ?_⟩ <;> with_reducible rfl) | with_reducible rfl)
    · (exact fun w' h => (T1.out w' h.t).mono fun _ _ ⟨he, hw, ht⟩ => ⟨he, h.on hw ht hne⟩)
    try simp only [List.getElem_toArray, List.getElem_cons_succ, List.getElem_cons_zero, Act.put, List.setIfInBounds_toArray, List.set_cons_zero, List.set_cons_succ]
    refine Fx.take (i := 7) (v := ?_) _ rfl (by kernel_rfl) (by kernel_rfl) (by rfl) hSS ?_ ?_
    rotate_left
    · (intro w' hSw; (try dsimp only at hSw); go_simp; first | done | with_reducible rfl)
    try simp only [List.getElem_toArray, List.getElem_cons_succ, List.getElem_cons_zero, Act.put, List.setIfInBounds_toArray, List.set_cons_zero, List.set_cons_succ]
    refine Fx.take (i := 8) (v := ?_) _ rfl (by kernel_rfl) (by kernel_rfl) (by rfl) hSS ?_ ?_
    rotate_left
    · (intro w' hSw; (try dsimp only at hSw); go_simp; first | done | with_reducible rfl)
    try simp only [List.getElem_toArray, List.getElem_cons_succ, List.getElem_cons_zero, Act.put, List.setIfInBounds_toArray, List.set_cons_zero, List.set_cons_succ]
    refine Fx.done 1 (by kernel_rfl) (by kernel_rfl) (fun w2 hC => ?_)
    go_wp2_with fail
    go_ret
    exact ⟨rfl, HM0.out.trans hC.md (by simp), hC.t⟩
  · have e1 : wrS k n m f s b = flagS b := by unfold wrS; rw [if_neg (by omega)]; rw [if_neg (by omega)]; rw [if_neg (by omega)]; rw [if_neg (by omega)]; 
    rw [e1] at hz HT0
    have e2 := flag_back b r
    have T1 := Lib.hid (fun w hb => Flag_calls g (flagS b ++ r) 0 w hz hb)
    rw [e2] at T1
    dsimp only at T1
    have h5 : (k : Int) % 5 = 4 := by omega
    generalize flagS b ++ r = S at *
    clear e1 e2 h hz hn m1 m2 hf hs
    go_enter Try.func12, Try.ntmps12
    go_wp2_with fail
    generalize w.alloc _ = W at HB0 HT0 HM0 ⊢
    obtain ⟨b0, b1, b2, b3, b4, b5⟩ := Blk6 HB0.out
    go_wp2_with fail
    refine Fx.wp_region_f [1] (AgC W g w.heap.size #[.int .u8 k, .int .u64 n, .int .i64 m, .float .f64 f, .string s, .bool b] S r) (by kernel_rfl) (by decide) ⟨(Mod.refl _ _).drew, HB0.out.drew, Blk.drew HT0.out⟩ ?_
    have hSS : ∀ m' w', AgC W g w.heap.size #[.int .u8 k, .int .u64 n, .int .i64 m, .float .f64 f, .string s, .bool b] S r m' w' → _ := fun m' w' h => Blk6 h.x
    refine Fx.take (i := 0) (v := ?_) _ rfl (by kernel_rfl) (by kernel_rfl) (by rfl) hSS ?_ ?_
    rotate_left
    · (intro w' hSw; (try dsimp only at hSw); go_simp; first | done | with_reducible rfl)
    try simp only [List.getElem_toArray, List.getElem_cons_succ, List.getElem_cons_zero, Act.put, List.setIfInBounds_toArray, List.set_cons_zero, List.set_cons_succ]
    refine Fx.take (i := 2) (v := ?_) _ rfl (by kernel_rfl) (by kernel_rfl) (by rfl) hSS ?_ ?_
    rotate_left
    · (intro w' hSw; (try dsimp only at hSw); go_simp; first | done | with_reducible rfl)
    try simp only [List.getElem_toArray, List.getElem_cons_succ, List.getElem_cons_zero, Act.put, List.setIfInBounds_toArray, List.set_cons_zero, List.set_cons_succ]
    refine Fx.take (i := 3) (v := ?_) _ rfl (by kernel_rfl) (by kernel_rfl) (by rfl) hSS ?_ ?_
    rotate_left
    · (intro w' hSw; (try dsimp only at hSw); go_simp; first | done | with_reducible rfl)
    try simp only [List.getElem_toArray, List.getElem_cons_succ, List.getElem_cons_zero, Act.put, List.setIfInBounds_toArray, List.set_cons_zero, List.set_cons_succ]
    refine Fx.eff' (i := 1) 0 rfl (by kernel_rfl) (by kernel_rfl) (by rfl) (by kernel_rfl) (by kernel_rfl) ?_
    apply Exists.intro
    apply Exists.intro
    apply Exists.intro
    refine ⟨?_, ?_, ?_⟩
    · (intro w'; go_simp; first | done | (refine ⟨?_, ?_⟩ <;> with_reducible rfl) | with_reducible rfl)
    · (exact fun w' h => (T1.out w' h.t).mono fun _ _ ⟨he, hw, ht⟩ => ⟨he, h.on hw ht hne⟩)
    try simp only [List.getElem_toArray, List.getElem_cons_succ, List.getElem_cons_zero, Act.put, List.setIfInBounds_toArray, List.set_cons_zero, List.set_cons_succ]
    refine Fx.take (i := 4) (v := ?_) _ rfl (by kernel_rfl) (by kernel_rfl) (by rfl) hSS ?_ ?_
    rotate_left
    · (intro w' hSw; (try dsimp only at hSw); go_simp; first | done | with_reducible rfl)
    try simp only [List.getElem_toArray, List.getElem_cons_succ, List.getElem_cons_zero, Act.put, List.setIfInBounds_toArray, List.set_cons_zero, List.set_cons_succ]
    refine Fx.take (i := 5) (v := ?_) _ rfl (by kernel_rfl) (by kernel_rfl) (by rfl) hSS ?_ ?_
    rotate_left
    · (intro w' hSw; (try dsimp only at hSw); go_simp; first | done | with_reducible rfl)
    try simp only [List.getElem_toArray, List.getElem_cons_succ, List.getElem_cons_zero, Act.put, List.setIfInBounds_toArray, List.set_cons_zero, List.set_cons_succ]
    refine Fx.done 1 (by kernel_rfl) (by kernel_rfl) (fun w2 hC => ?_)
    go_wp2_with fail
    go_ret
    exact ⟨rfl, HM0.out.trans hC.md (by simp), hC.t⟩
end Go.Proofs.Ytfabmgdfapioiaa.Bits
