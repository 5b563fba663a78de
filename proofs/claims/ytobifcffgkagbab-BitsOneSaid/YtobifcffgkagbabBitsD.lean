/- The law BitsOne. (Printed by gen_one.py.) -/
import Derived.Test.YtobifcffgkagbabBitsC
import Derived.Test.YtobifcffgkagbabQuiet
namespace Go.Proofs.Ytobifcffgkagbab.Bits
open Go.RowKit Mem
set_option linter.unusedSimpArgs false
set_option linter.unusedVariables false

theorem str_eq (a b : ByteArray) : (a.toList == b.toList) = true ↔ a = b := by
  rw [beq_iff_eq, _root_.Go.ByteArray.toList_eq, _root_.Go.ByteArray.toList_eq]
  exact ⟨fun h => ByteArray.ext (Array.ext' h), fun h => by rw [h]⟩
theorem realR_size (s : ByteArray) (e : Int) : (realR s e).2.1.size ≤ s.size := by
  unfold realR
  repeat' split
  all_goals dsimp only
  all_goals (first | omega | (rw [ByteArray.size_extract]; omega))
theorem flagR_size (s : ByteArray) (e : Int) : (flagR s e).2.1.size ≤ s.size := by
  unfold flagR
  repeat' split
  all_goals dsimp only
  all_goals (first | omega | (rw [ByteArray.size_extract]; omega))
theorem textR_size (s : ByteArray) (e : Int) (most : Int) : (textR s e most).1.size + (textR s e most).2.1.size ≤ s.size := by
  have h0 : (ByteArray.mk #[]).size = 0 := rfl
  unfold textR
  repeat' split
  all_goals dsimp only
  all_goals (first | omega | (rw [ByteArray.size_extract, ByteArray.size_extract]; omega))

set_option maxHeartbeats 2000000 in
theorem bitsOne_calls (w : World) (s : ByteArray) (hs : s.size ≤ 140737488351232) (k : Int) (hk : (Lit.int .u8 k).wf = true) :
    Calls Try.prog 5 #[.string s, .int .u8 k] w fun e w' => e = .returned (.bool true) ∧ Below w.heap.size w w' := by
  obtain ⟨h0, h1⟩ : 0 ≤ k ∧ k ≤ 255 := by simpa [Lit.wf, IntKind.min, IntKind.max, IntKind.signed, IntKind.bits] using hk
  obtain ⟨k, rfl⟩ := Int.eq_ofNat_of_zero_le h0
  have hr : k % 5 = 0 ∨ k % 5 = 1 ∨ k % 5 = 2 ∨ k % 5 = 3 ∨ k % 5 = 4 := by omega
  have N0 := Lib.hid (fun w => at_calls s w)
  have hss : (s.toList == s.toList) = true := by simp
  have hff : (FloatKind.f64.format.order 0 0 == some .eq) = true := by kernel_rfl
  have hs' : (s.size : Int) ≤ 140737488351232 := by omega
  rcases hr with h | h | h | h | h
  · have hc := fun g w hb => Num_calls g s 0 w (by omega) hb
    have h5 : (k : Int) % 5 = 0 := by omega
    have hz := num_none s
    have hf := num_form s
    have hl := tN_lt s 0
    have hsz := tS_size s 0
    generalize tN s 0 = n at *
    generalize tS s 0 = S at *
    generalize tE s 0 = E at *
    have HC := Lib.hid hc
    clear hc
    by_cases he : E = 0
    · subst he
      have hf := hf rfl
      have hwr := fun w => written_calls k n 0 0 ⟨#[]⟩ false (by omega) hl (by decide) (by decide) (by decide) (by decide) w
      have hwe : wrS k n 0 0 ⟨#[]⟩ false = Bt.numS n := by unfold wrS; rw [if_pos h]
      rw [hwe] at hwr
      have hws := Bt.numS_size_le n
      generalize Bt.numS n = W at *
      have hcat : ((W ++ S).toList == s.toList) = true := by rw [str_eq]; exact hf
      have HW := Lib.hid hwr
      have hsz3 : (W.size : Int) + (S.size : Int) ≤ 140737488355328 := by omega
      clear hwr hf hwe hz hws h
      go_enter Try.func5, Try.ntmps5
      go_wp2_with fail
      refine (N0.out _).mono ?_
      rintro e w1 ⟨rfl, hm1, hb1⟩
      go_wp2_with fail
      refine (awake_calls _).mono ?_
      rintro e w2 ⟨rfl, hm2⟩
      have hb2 : TapeAt w2 w.heap.size s 0 := Blk.mod hb1 hm2 (by simp)
      have hgt := hb2.lt
      go_wp2_with fail
      refine (HC.out _ _ (hb2.alloc _)).mono ?_
      rintro e w3 ⟨rfl, hm3, hb3⟩
      have hx3 := (Blk.new w2 #[.int .u8 k, .int .u64 0, .int .i64 0, .float .f64 0, .string ⟨#[]⟩, .bool false] 40).mod hm3 (by simp; omega)
      have hx1 := hx3.cell 1
      have hx2 := hx3.free 1
      simp at hx1
      go_wp2_with fail
      obtain ⟨w4, hw4⟩ : ∃ w4, w4 = w3.setCell ⟨w2.heap.size, 1, none⟩ (.int .u64 n) := ⟨_, rfl⟩
      rw [← hw4]
      have hb4 : TapeAt w4 w.heap.size S 0 := by rw [hw4]; exact Blk.far hb3 (by simp; omega) _
      have hx4 : Blk w4 w2.heap.size #[.int .u8 k, .int .u64 n, .int .i64 0, .float .f64 0, .string ⟨#[]⟩, .bool false] 40 := by rw [hw4]; exact hx3.set 1 _
      have hm4 : Mod w w4 [] := by
        rw [hw4]
        exact ((((hm1.trans0 hm2).alloc _).trans (R' := [w.heap.size]) hm3 (by simp)).setCell (by simp; have := hm2.size; have := hm1.size; omega) _)
      have hlt4 := hx4.lt
      clear hw4 hx1 hx2 hx3 hb3 hb1 hb2 hm1 hm2 hm3
      have HM := Lib.hid hm4
      have HB := Lib.hid hb4
      have hy0 := hx4.cell 0
      have hy1 := hx4.cell 1
      have hy2 := hx4.cell 2
      have hy3 := hx4.cell 3
      have hy4 := hx4.cell 4
      have hy5 := hx4.cell 5
      simp at hy0 hy1 hy2 hy3 hy4 hy5
      clear hx4 hm4
      refine (Err_calls _ _ _ _ hb4).mono ?_
      rintro e w5 ⟨rfl, rfl⟩
      go_wp2_with fail
      refine (HW.out _).mono ?_
      rintro e w5 ⟨rfl, hmq⟩
      go_wp2_with fail
      refine (Rest_calls _ _ _ _ (HB.out.mod hmq (by simp))).mono ?_
      rintro e w6 ⟨rfl, rfl⟩
      go_wp2_with fail
      go_ret
      exact ⟨ret_bool (by first | exact hcat | simp), (HM.out.trans0 hmq).below0⟩
    · obtain ⟨hz1, hz2⟩ := hz he
      have hz2 := hz2.symm
      subst hz2
      subst hz1
      have hne : (E != 0) = true := by rw [bne_iff_ne]; exact he
      clear hf h he
      go_enter Try.func5, Try.ntmps5
      go_wp2_with fail
      refine (N0.out _).mono ?_
      rintro e w1 ⟨rfl, hm1, hb1⟩
      go_wp2_with fail
      refine (awake_calls _).mono ?_
      rintro e w2 ⟨rfl, hm2⟩
      have hb2 : TapeAt w2 w.heap.size s 0 := Blk.mod hb1 hm2 (by simp)
      have hgt := hb2.lt
      go_wp2_with fail
      refine (HC.out _ _ (hb2.alloc _)).mono ?_
      rintro e w3 ⟨rfl, hm3, hb3⟩
      have hx3 := (Blk.new w2 #[.int .u8 k, .int .u64 0, .int .i64 0, .float .f64 0, .string ⟨#[]⟩, .bool false] 40).mod hm3 (by simp; omega)
      have hx1 := hx3.cell 1
      have hx2 := hx3.free 1
      simp at hx1
      go_wp2_with fail
      obtain ⟨w4, hw4⟩ : ∃ w4, w4 = w3.setCell ⟨w2.heap.size, 1, none⟩ (.int .u64 0) := ⟨_, rfl⟩
      rw [← hw4]
      have hb4 : TapeAt w4 w.heap.size s E := by rw [hw4]; exact Blk.far hb3 (by simp; omega) _
      have hx4 : Blk w4 w2.heap.size #[.int .u8 k, .int .u64 0, .int .i64 0, .float .f64 0, .string ⟨#[]⟩, .bool false] 40 := by rw [hw4]; exact hx3.set 1 _
      have hm4 : Mod w w4 [] := by
        rw [hw4]
        exact ((((hm1.trans0 hm2).alloc _).trans (R' := [w.heap.size]) hm3 (by simp)).setCell (by simp; have := hm2.size; have := hm1.size; omega) _)
      have hlt4 := hx4.lt
      clear hw4 hx1 hx2 hx3 hb3 hb1 hb2 hm1 hm2 hm3
      have HM := Lib.hid hm4
      have HB := Lib.hid hb4
      have hy0 := hx4.cell 0
      have hy1 := hx4.cell 1
      have hy2 := hx4.cell 2
      have hy3 := hx4.cell 3
      have hy4 := hx4.cell 4
      have hy5 := hx4.cell 5
      simp at hy0 hy1 hy2 hy3 hy4 hy5
      clear hx4 hm4
      refine (Err_calls _ _ _ _ hb4).mono ?_
      rintro e w5 ⟨rfl, rfl⟩
      go_wp2_with fail
      refine (Rest_calls _ _ _ _ HB.out).mono ?_
      rintro e w6 ⟨rfl, rfl⟩
      go_wp2_with fail
      go_ret
      exact ⟨ret_bool (by first | rfl | simp), HM.out.below0⟩
  · have hc := fun g w hb => Int_calls g s 0 w (by omega) hb
    have h5 : (k : Int) % 5 = 1 := by omega
    have hz := num_none s
    have hf := num_form s
    have hl := tN_lt s 0
    have hu := unfoldI_bd (tN s 0) hl
    have hfu := fold_unfoldI (tN s 0)
    have hu0 : tN s 0 = 0 → unfoldI (tN s 0) = 0 := fun h => by rw [h]; rfl
    have hsz := tS_size s 0
    generalize unfoldI (tN s 0) = m at *
    generalize tN s 0 = n at *
    generalize tS s 0 = S at *
    generalize tE s 0 = E at *
    have HC := Lib.hid hc
    clear hc
    by_cases he : E = 0
    · subst he
      have hf := hf rfl
      have hwr := fun w => written_calls k 0 m 0 ⟨#[]⟩ false (by omega) (by decide) hu.1 hu.2 (by decide) (by decide) w
      have hwe : wrS k 0 m 0 ⟨#[]⟩ false = Bt.numS n := by unfold wrS; rw [if_neg (by omega)]; rw [if_pos h]; rw [hfu]
      rw [hwe] at hwr
      have hws := Bt.numS_size_le n
      generalize Bt.numS n = W at *
      have hcat : ((W ++ S).toList == s.toList) = true := by rw [str_eq]; exact hf
      have HW := Lib.hid hwr
      have hsz3 : (W.size : Int) + (S.size : Int) ≤ 140737488355328 := by omega
      clear hwr hf hwe hz hws h
      go_enter Try.func5, Try.ntmps5
      go_wp2_with fail
      refine (N0.out _).mono ?_
      rintro e w1 ⟨rfl, hm1, hb1⟩
      go_wp2_with fail
      refine (awake_calls _).mono ?_
      rintro e w2 ⟨rfl, hm2⟩
      have hb2 : TapeAt w2 w.heap.size s 0 := Blk.mod hb1 hm2 (by simp)
      have hgt := hb2.lt
      go_wp2_with fail
      refine (HC.out _ _ (hb2.alloc _)).mono ?_
      rintro e w3 ⟨rfl, hm3, hb3⟩
      have hx3 := (Blk.new w2 #[.int .u8 k, .int .u64 0, .int .i64 0, .float .f64 0, .string ⟨#[]⟩, .bool false] 40).mod hm3 (by simp; omega)
      have hx1 := hx3.cell 2
      have hx2 := hx3.free 2
      simp at hx1
      go_wp2_with fail
      obtain ⟨w4, hw4⟩ : ∃ w4, w4 = w3.setCell ⟨w2.heap.size, 2, none⟩ (.int .i64 m) := ⟨_, rfl⟩
      rw [← hw4]
      have hb4 : TapeAt w4 w.heap.size S 0 := by rw [hw4]; exact Blk.far hb3 (by simp; omega) _
      have hx4 : Blk w4 w2.heap.size #[.int .u8 k, .int .u64 0, .int .i64 m, .float .f64 0, .string ⟨#[]⟩, .bool false] 40 := by rw [hw4]; exact hx3.set 2 _
      have hm4 : Mod w w4 [] := by
        rw [hw4]
        exact ((((hm1.trans0 hm2).alloc _).trans (R' := [w.heap.size]) hm3 (by simp)).setCell (by simp; have := hm2.size; have := hm1.size; omega) _)
      have hlt4 := hx4.lt
      clear hw4 hx1 hx2 hx3 hb3 hb1 hb2 hm1 hm2 hm3
      have HM := Lib.hid hm4
      have HB := Lib.hid hb4
      have hy0 := hx4.cell 0
      have hy1 := hx4.cell 1
      have hy2 := hx4.cell 2
      have hy3 := hx4.cell 3
      have hy4 := hx4.cell 4
      have hy5 := hx4.cell 5
      simp at hy0 hy1 hy2 hy3 hy4 hy5
      clear hx4 hm4
      refine (Err_calls _ _ _ _ hb4).mono ?_
      rintro e w5 ⟨rfl, rfl⟩
      go_wp2_with fail
      refine (HW.out _).mono ?_
      rintro e w5 ⟨rfl, hmq⟩
      go_wp2_with fail
      refine (Rest_calls _ _ _ _ (HB.out.mod hmq (by simp))).mono ?_
      rintro e w6 ⟨rfl, rfl⟩
      go_wp2_with fail
      go_ret
      exact ⟨ret_bool (by first | exact hcat | simp), (HM.out.trans0 hmq).below0⟩
    · obtain ⟨hz1, hz2⟩ := hz he
      have hz2 := hz2.symm
      subst hz2
      have hz3 := hu0 hz1
      subst hz3
      subst hz1
      have hne : (E != 0) = true := by rw [bne_iff_ne]; exact he
      clear hf h he
      go_enter Try.func5, Try.ntmps5
      go_wp2_with fail
      refine (N0.out _).mono ?_
      rintro e w1 ⟨rfl, hm1, hb1⟩
      go_wp2_with fail
      refine (awake_calls _).mono ?_
      rintro e w2 ⟨rfl, hm2⟩
      have hb2 : TapeAt w2 w.heap.size s 0 := Blk.mod hb1 hm2 (by simp)
      have hgt := hb2.lt
      go_wp2_with fail
      refine (HC.out _ _ (hb2.alloc _)).mono ?_
      rintro e w3 ⟨rfl, hm3, hb3⟩
      have hx3 := (Blk.new w2 #[.int .u8 k, .int .u64 0, .int .i64 0, .float .f64 0, .string ⟨#[]⟩, .bool false] 40).mod hm3 (by simp; omega)
      have hx1 := hx3.cell 2
      have hx2 := hx3.free 2
      simp at hx1
      go_wp2_with fail
      obtain ⟨w4, hw4⟩ : ∃ w4, w4 = w3.setCell ⟨w2.heap.size, 2, none⟩ (.int .i64 0) := ⟨_, rfl⟩
      rw [← hw4]
      have hb4 : TapeAt w4 w.heap.size s E := by rw [hw4]; exact Blk.far hb3 (by simp; omega) _
      have hx4 : Blk w4 w2.heap.size #[.int .u8 k, .int .u64 0, .int .i64 0, .float .f64 0, .string ⟨#[]⟩, .bool false] 40 := by rw [hw4]; exact hx3.set 2 _
      have hm4 : Mod w w4 [] := by
        rw [hw4]
        exact ((((hm1.trans0 hm2).alloc _).trans (R' := [w.heap.size]) hm3 (by simp)).setCell (by simp; have := hm2.size; have := hm1.size; omega) _)
      have hlt4 := hx4.lt
      clear hw4 hx1 hx2 hx3 hb3 hb1 hb2 hm1 hm2 hm3
      have HM := Lib.hid hm4
      have HB := Lib.hid hb4
      have hy0 := hx4.cell 0
      have hy1 := hx4.cell 1
      have hy2 := hx4.cell 2
      have hy3 := hx4.cell 3
      have hy4 := hx4.cell 4
      have hy5 := hx4.cell 5
      simp at hy0 hy1 hy2 hy3 hy4 hy5
      clear hx4 hm4
      refine (Err_calls _ _ _ _ hb4).mono ?_
      rintro e w5 ⟨rfl, rfl⟩
      go_wp2_with fail
      refine (Rest_calls _ _ _ _ HB.out).mono ?_
      rintro e w6 ⟨rfl, rfl⟩
      go_wp2_with fail
      go_ret
      exact ⟨ret_bool (by first | rfl | simp), HM.out.below0⟩
  · have hc := fun g w hb => Real_calls g s 0 w (by omega) hb
    have h5 : (k : Int) % 5 = 2 := by omega
    have hz := real_none s
    have hf := real_form s
    have hl := realR_lt s 0
    have hsz := realR_size s 0
    generalize realR s 0 = R at *
    obtain ⟨f, S, E⟩ := R
    simp only at *
    have HC := Lib.hid hc
    clear hc
    by_cases he : E = 0
    · subst he
      have hf := hf rfl
      have hwr := fun w => written_calls k 0 0 f ⟨#[]⟩ false (by omega) (by decide) (by decide) (by decide) hl (by decide) w
      have hwe : wrS k 0 0 f ⟨#[]⟩ false = realS f := by unfold wrS; rw [if_neg (by omega)]; rw [if_neg (by omega)]; rw [if_pos h]
      rw [hwe] at hwr
      have hws : (realS f).size = 8 := by unfold realS; rw [strOfNums_size, Bt.be_length]
      generalize realS f = W at *
      have hcat : ((W ++ S).toList == s.toList) = true := by rw [str_eq]; exact hf
      have HW := Lib.hid hwr
      have hsz3 : (W.size : Int) + (S.size : Int) ≤ 140737488355328 := by omega
      clear hwr hf hwe hz hws h
      go_enter Try.func5, Try.ntmps5
      go_wp2_with fail
      refine (N0.out _).mono ?_
      rintro e w1 ⟨rfl, hm1, hb1⟩
      go_wp2_with fail
      refine (awake_calls _).mono ?_
      rintro e w2 ⟨rfl, hm2⟩
      have hb2 : TapeAt w2 w.heap.size s 0 := Blk.mod hb1 hm2 (by simp)
      have hgt := hb2.lt
      go_wp2_with fail
      refine (HC.out _ _ (hb2.alloc _)).mono ?_
      rintro e w3 ⟨rfl, hm3, hb3⟩
      have hx3 := (Blk.new w2 #[.int .u8 k, .int .u64 0, .int .i64 0, .float .f64 0, .string ⟨#[]⟩, .bool false] 40).mod hm3 (by simp; omega)
      have hx1 := hx3.cell 3
      have hx2 := hx3.free 3
      simp at hx1
      go_wp2_with fail
      obtain ⟨w4, hw4⟩ : ∃ w4, w4 = w3.setCell ⟨w2.heap.size, 3, none⟩ (.float .f64 f) := ⟨_, rfl⟩
      rw [← hw4]
      have hb4 : TapeAt w4 w.heap.size S 0 := by rw [hw4]; exact Blk.far hb3 (by simp; omega) _
      have hx4 : Blk w4 w2.heap.size #[.int .u8 k, .int .u64 0, .int .i64 0, .float .f64 f, .string ⟨#[]⟩, .bool false] 40 := by rw [hw4]; exact hx3.set 3 _
      have hm4 : Mod w w4 [] := by
        rw [hw4]
        exact ((((hm1.trans0 hm2).alloc _).trans (R' := [w.heap.size]) hm3 (by simp)).setCell (by simp; have := hm2.size; have := hm1.size; omega) _)
      have hlt4 := hx4.lt
      clear hw4 hx1 hx2 hx3 hb3 hb1 hb2 hm1 hm2 hm3
      have HM := Lib.hid hm4
      have HB := Lib.hid hb4
      have hy0 := hx4.cell 0
      have hy1 := hx4.cell 1
      have hy2 := hx4.cell 2
      have hy3 := hx4.cell 3
      have hy4 := hx4.cell 4
      have hy5 := hx4.cell 5
      simp at hy0 hy1 hy2 hy3 hy4 hy5
      clear hx4 hm4
      refine (Err_calls _ _ _ _ hb4).mono ?_
      rintro e w5 ⟨rfl, rfl⟩
      go_wp2_with fail
      refine (HW.out _).mono ?_
      rintro e w5 ⟨rfl, hmq⟩
      go_wp2_with fail
      refine (Rest_calls _ _ _ _ (HB.out.mod hmq (by simp))).mono ?_
      rintro e w6 ⟨rfl, rfl⟩
      go_wp2_with fail
      go_ret
      exact ⟨ret_bool (by first | exact hcat | simp), (HM.out.trans0 hmq).below0⟩
    · obtain ⟨hz1, hz2⟩ := hz he
      have hz2 := hz2.symm
      subst hz2
      subst hz1
      have hne : (E != 0) = true := by rw [bne_iff_ne]; exact he
      clear hf h he
      go_enter Try.func5, Try.ntmps5
      go_wp2_with fail
      refine (N0.out _).mono ?_
      rintro e w1 ⟨rfl, hm1, hb1⟩
      go_wp2_with fail
      refine (awake_calls _).mono ?_
      rintro e w2 ⟨rfl, hm2⟩
      have hb2 : TapeAt w2 w.heap.size s 0 := Blk.mod hb1 hm2 (by simp)
      have hgt := hb2.lt
      go_wp2_with fail
      refine (HC.out _ _ (hb2.alloc _)).mono ?_
      rintro e w3 ⟨rfl, hm3, hb3⟩
      have hx3 := (Blk.new w2 #[.int .u8 k, .int .u64 0, .int .i64 0, .float .f64 0, .string ⟨#[]⟩, .bool false] 40).mod hm3 (by simp; omega)
      have hx1 := hx3.cell 3
      have hx2 := hx3.free 3
      simp at hx1
      go_wp2_with fail
      obtain ⟨w4, hw4⟩ : ∃ w4, w4 = w3.setCell ⟨w2.heap.size, 3, none⟩ (.float .f64 0) := ⟨_, rfl⟩
      rw [← hw4]
      have hb4 : TapeAt w4 w.heap.size s E := by rw [hw4]; exact Blk.far hb3 (by simp; omega) _
      have hx4 : Blk w4 w2.heap.size #[.int .u8 k, .int .u64 0, .int .i64 0, .float .f64 0, .string ⟨#[]⟩, .bool false] 40 := by rw [hw4]; exact hx3.set 3 _
      have hm4 : Mod w w4 [] := by
        rw [hw4]
        exact ((((hm1.trans0 hm2).alloc _).trans (R' := [w.heap.size]) hm3 (by simp)).setCell (by simp; have := hm2.size; have := hm1.size; omega) _)
      have hlt4 := hx4.lt
      clear hw4 hx1 hx2 hx3 hb3 hb1 hb2 hm1 hm2 hm3
      have HM := Lib.hid hm4
      have HB := Lib.hid hb4
      have hy0 := hx4.cell 0
      have hy1 := hx4.cell 1
      have hy2 := hx4.cell 2
      have hy3 := hx4.cell 3
      have hy4 := hx4.cell 4
      have hy5 := hx4.cell 5
      simp at hy0 hy1 hy2 hy3 hy4 hy5
      clear hx4 hm4
      refine (Err_calls _ _ _ _ hb4).mono ?_
      rintro e w5 ⟨rfl, rfl⟩
      go_wp2_with fail
      refine (Rest_calls _ _ _ _ HB.out).mono ?_
      rintro e w6 ⟨rfl, rfl⟩
      go_wp2_with fail
      go_ret
      exact ⟨ret_bool (by first | rfl | simp), HM.out.below0⟩
  · have hc := fun g w hb => Text_calls g s 0 (s.size : Nat) (by omega) (by omega) w (by omega) hb
    have h5 : (k : Int) % 5 = 3 := by omega
    have hz := text_none s (s.size : Nat)
    have hf := text_form s (s.size : Nat)
    have hl := textR_size s 0 (s.size : Nat)
    generalize textR s 0 (s.size : Nat) = R at *
    obtain ⟨f, S, E⟩ := R
    simp only at *
    have HC := Lib.hid hc
    clear hc
    by_cases he : E = 0
    · subst he
      have hf := hf rfl
      have hwr := fun w => written_calls k 0 0 0 f false (by omega) (by decide) (by decide) (by decide) (by decide) (by first | omega | (simp only at hl; omega)) w
      have hwe : wrS k 0 0 0 f false = Bt.numS f.size ++ f := by unfold wrS; rw [if_neg (by omega)]; rw [if_neg (by omega)]; rw [if_neg (by omega)]; rw [if_pos h]
      rw [hwe] at hwr
      have hws : (Bt.numS f.size ++ f).size ≤ 9 + f.size := by rw [ByteArray.size_append]; have := Bt.numS_size_le f.size; omega
      generalize Bt.numS f.size ++ f = W at *
      have hcat : ((W ++ S).toList == s.toList) = true := by rw [str_eq]; exact hf
      have HW := Lib.hid hwr
      have hsz3 : (W.size : Int) + (S.size : Int) ≤ 140737488355328 := by omega
      clear hwr hf hwe hz hws h
      go_enter Try.func5, Try.ntmps5
      go_wp2_with fail
      refine (N0.out _).mono ?_
      rintro e w1 ⟨rfl, hm1, hb1⟩
      go_wp2_with fail
      refine (awake_calls _).mono ?_
      rintro e w2 ⟨rfl, hm2⟩
      have hb2 : TapeAt w2 w.heap.size s 0 := Blk.mod hb1 hm2 (by simp)
      have hgt := hb2.lt
      go_wp2_with fail
      refine (HC.out _ _ (hb2.alloc _)).mono ?_
      rintro e w3 ⟨rfl, hm3, hb3⟩
      have hx3 := (Blk.new w2 #[.int .u8 k, .int .u64 0, .int .i64 0, .float .f64 0, .string ⟨#[]⟩, .bool false] 40).mod hm3 (by simp; omega)
      have hx1 := hx3.cell 4
      have hx2 := hx3.free 4
      simp at hx1
      go_wp2_with fail
      obtain ⟨w4, hw4⟩ : ∃ w4, w4 = w3.setCell ⟨w2.heap.size, 4, none⟩ (.string f) := ⟨_, rfl⟩
      rw [← hw4]
      have hb4 : TapeAt w4 w.heap.size S 0 := by rw [hw4]; exact Blk.far hb3 (by simp; omega) _
      have hx4 : Blk w4 w2.heap.size #[.int .u8 k, .int .u64 0, .int .i64 0, .float .f64 0, .string f, .bool false] 40 := by rw [hw4]; exact hx3.set 4 _
      have hm4 : Mod w w4 [] := by
        rw [hw4]
        exact ((((hm1.trans0 hm2).alloc _).trans (R' := [w.heap.size]) hm3 (by simp)).setCell (by simp; have := hm2.size; have := hm1.size; omega) _)
      have hlt4 := hx4.lt
      clear hw4 hx1 hx2 hx3 hb3 hb1 hb2 hm1 hm2 hm3
      have HM := Lib.hid hm4
      have HB := Lib.hid hb4
      have hy0 := hx4.cell 0
      have hy1 := hx4.cell 1
      have hy2 := hx4.cell 2
      have hy3 := hx4.cell 3
      have hy4 := hx4.cell 4
      have hy5 := hx4.cell 5
      simp at hy0 hy1 hy2 hy3 hy4 hy5
      clear hx4 hm4
      refine (Err_calls _ _ _ _ hb4).mono ?_
      rintro e w5 ⟨rfl, rfl⟩
      go_wp2_with fail
      refine (HW.out _).mono ?_
      rintro e w5 ⟨rfl, hmq⟩
      go_wp2_with fail
      refine (Rest_calls _ _ _ _ (HB.out.mod hmq (by simp))).mono ?_
      rintro e w6 ⟨rfl, rfl⟩
      go_wp2_with fail
      go_ret
      exact ⟨ret_bool (by first | exact hcat | simp), (HM.out.trans0 hmq).below0⟩
    · obtain ⟨hz1, hz2⟩ := hz he
      have hz2 := hz2.symm
      subst hz2
      subst hz1
      have hne : (E != 0) = true := by rw [bne_iff_ne]; exact he
      clear hf h he
      go_enter Try.func5, Try.ntmps5
      go_wp2_with fail
      refine (N0.out _).mono ?_
      rintro e w1 ⟨rfl, hm1, hb1⟩
      go_wp2_with fail
      refine (awake_calls _).mono ?_
      rintro e w2 ⟨rfl, hm2⟩
      have hb2 : TapeAt w2 w.heap.size s 0 := Blk.mod hb1 hm2 (by simp)
      have hgt := hb2.lt
      go_wp2_with fail
      refine (HC.out _ _ (hb2.alloc _)).mono ?_
      rintro e w3 ⟨rfl, hm3, hb3⟩
      have hx3 := (Blk.new w2 #[.int .u8 k, .int .u64 0, .int .i64 0, .float .f64 0, .string ⟨#[]⟩, .bool false] 40).mod hm3 (by simp; omega)
      have hx1 := hx3.cell 4
      have hx2 := hx3.free 4
      simp at hx1
      go_wp2_with fail
      obtain ⟨w4, hw4⟩ : ∃ w4, w4 = w3.setCell ⟨w2.heap.size, 4, none⟩ (.string ⟨#[]⟩) := ⟨_, rfl⟩
      rw [← hw4]
      have hb4 : TapeAt w4 w.heap.size s E := by rw [hw4]; exact Blk.far hb3 (by simp; omega) _
      have hx4 : Blk w4 w2.heap.size #[.int .u8 k, .int .u64 0, .int .i64 0, .float .f64 0, .string ⟨#[]⟩, .bool false] 40 := by rw [hw4]; exact hx3.set 4 _
      have hm4 : Mod w w4 [] := by
        rw [hw4]
        exact ((((hm1.trans0 hm2).alloc _).trans (R' := [w.heap.size]) hm3 (by simp)).setCell (by simp; have := hm2.size; have := hm1.size; omega) _)
      have hlt4 := hx4.lt
      clear hw4 hx1 hx2 hx3 hb3 hb1 hb2 hm1 hm2 hm3
      have HM := Lib.hid hm4
      have HB := Lib.hid hb4
      have hy0 := hx4.cell 0
      have hy1 := hx4.cell 1
      have hy2 := hx4.cell 2
      have hy3 := hx4.cell 3
      have hy4 := hx4.cell 4
      have hy5 := hx4.cell 5
      simp at hy0 hy1 hy2 hy3 hy4 hy5
      clear hx4 hm4
      refine (Err_calls _ _ _ _ hb4).mono ?_
      rintro e w5 ⟨rfl, rfl⟩
      go_wp2_with fail
      refine (Rest_calls _ _ _ _ HB.out).mono ?_
      rintro e w6 ⟨rfl, rfl⟩
      go_wp2_with fail
      go_ret
      exact ⟨ret_bool (by first | rfl | simp), HM.out.below0⟩
  · have hc := fun g w hb => Flag_calls g s 0 w (by omega) hb
    have h5 : (k : Int) % 5 = 4 := by omega
    have hz := flag_none s
    have hf := flag_form s
    have hsz := flagR_size s 0
    generalize flagR s 0 = R at *
    obtain ⟨f, S, E⟩ := R
    simp only at *
    have HC := Lib.hid hc
    clear hc
    by_cases he : E = 0
    · subst he
      have hf := hf rfl
      have hwr := fun w => written_calls k 0 0 0 ⟨#[]⟩ f (by omega) (by decide) (by decide) (by decide) (by decide) (by decide) w
      have hwe : wrS k 0 0 0 ⟨#[]⟩ f = flagS f := by unfold wrS; rw [if_neg (by omega)]; rw [if_neg (by omega)]; rw [if_neg (by omega)]; rw [if_neg (by omega)]
      rw [hwe] at hwr
      have hws : (flagS f).size = 1 := by cases f <;> rfl
      generalize flagS f = W at *
      have hcat : ((W ++ S).toList == s.toList) = true := by rw [str_eq]; exact hf
      have HW := Lib.hid hwr
      have hsz3 : (W.size : Int) + (S.size : Int) ≤ 140737488355328 := by omega
      clear hwr hf hwe hz hws h
      go_enter Try.func5, Try.ntmps5
      go_wp2_with fail
      refine (N0.out _).mono ?_
      rintro e w1 ⟨rfl, hm1, hb1⟩
      go_wp2_with fail
      refine (awake_calls _).mono ?_
      rintro e w2 ⟨rfl, hm2⟩
      have hb2 : TapeAt w2 w.heap.size s 0 := Blk.mod hb1 hm2 (by simp)
      have hgt := hb2.lt
      go_wp2_with fail
      refine (HC.out _ _ (hb2.alloc _)).mono ?_
      rintro e w3 ⟨rfl, hm3, hb3⟩
      have hx3 := (Blk.new w2 #[.int .u8 k, .int .u64 0, .int .i64 0, .float .f64 0, .string ⟨#[]⟩, .bool false] 40).mod hm3 (by simp; omega)
      have hx1 := hx3.cell 5
      have hx2 := hx3.free 5
      simp at hx1
      go_wp2_with fail
      obtain ⟨w4, hw4⟩ : ∃ w4, w4 = w3.setCell ⟨w2.heap.size, 5, none⟩ (.bool f) := ⟨_, rfl⟩
      rw [← hw4]
      have hb4 : TapeAt w4 w.heap.size S 0 := by rw [hw4]; exact Blk.far hb3 (by simp; omega) _
      have hx4 : Blk w4 w2.heap.size #[.int .u8 k, .int .u64 0, .int .i64 0, .float .f64 0, .string ⟨#[]⟩, .bool f] 40 := by rw [hw4]; exact hx3.set 5 _
      have hm4 : Mod w w4 [] := by
        rw [hw4]
        exact ((((hm1.trans0 hm2).alloc _).trans (R' := [w.heap.size]) hm3 (by simp)).setCell (by simp; have := hm2.size; have := hm1.size; omega) _)
      have hlt4 := hx4.lt
      clear hw4 hx1 hx2 hx3 hb3 hb1 hb2 hm1 hm2 hm3
      have HM := Lib.hid hm4
      have HB := Lib.hid hb4
      have hy0 := hx4.cell 0
      have hy1 := hx4.cell 1
      have hy2 := hx4.cell 2
      have hy3 := hx4.cell 3
      have hy4 := hx4.cell 4
      have hy5 := hx4.cell 5
      simp at hy0 hy1 hy2 hy3 hy4 hy5
      clear hx4 hm4
      refine (Err_calls _ _ _ _ hb4).mono ?_
      rintro e w5 ⟨rfl, rfl⟩
      go_wp2_with fail
      refine (HW.out _).mono ?_
      rintro e w5 ⟨rfl, hmq⟩
      go_wp2_with fail
      refine (Rest_calls _ _ _ _ (HB.out.mod hmq (by simp))).mono ?_
      rintro e w6 ⟨rfl, rfl⟩
      go_wp2_with fail
      go_ret
      exact ⟨ret_bool (by first | exact hcat | simp), (HM.out.trans0 hmq).below0⟩
    · obtain ⟨hz1, hz2⟩ := hz he
      have hz2 := hz2.symm
      subst hz2
      subst hz1
      have hne : (E != 0) = true := by rw [bne_iff_ne]; exact he
      clear hf h he
      go_enter Try.func5, Try.ntmps5
      go_wp2_with fail
      refine (N0.out _).mono ?_
      rintro e w1 ⟨rfl, hm1, hb1⟩
      go_wp2_with fail
      refine (awake_calls _).mono ?_
      rintro e w2 ⟨rfl, hm2⟩
      have hb2 : TapeAt w2 w.heap.size s 0 := Blk.mod hb1 hm2 (by simp)
      have hgt := hb2.lt
      go_wp2_with fail
      refine (HC.out _ _ (hb2.alloc _)).mono ?_
      rintro e w3 ⟨rfl, hm3, hb3⟩
      have hx3 := (Blk.new w2 #[.int .u8 k, .int .u64 0, .int .i64 0, .float .f64 0, .string ⟨#[]⟩, .bool false] 40).mod hm3 (by simp; omega)
      have hx1 := hx3.cell 5
      have hx2 := hx3.free 5
      simp at hx1
      go_wp2_with fail
      obtain ⟨w4, hw4⟩ : ∃ w4, w4 = w3.setCell ⟨w2.heap.size, 5, none⟩ (.bool false) := ⟨_, rfl⟩
      rw [← hw4]
      have hb4 : TapeAt w4 w.heap.size s E := by rw [hw4]; exact Blk.far hb3 (by simp; omega) _
      have hx4 : Blk w4 w2.heap.size #[.int .u8 k, .int .u64 0, .int .i64 0, .float .f64 0, .string ⟨#[]⟩, .bool false] 40 := by rw [hw4]; exact hx3.set 5 _
      have hm4 : Mod w w4 [] := by
        rw [hw4]
        exact ((((hm1.trans0 hm2).alloc _).trans (R' := [w.heap.size]) hm3 (by simp)).setCell (by simp; have := hm2.size; have := hm1.size; omega) _)
      have hlt4 := hx4.lt
      clear hw4 hx1 hx2 hx3 hb3 hb1 hb2 hm1 hm2 hm3
      have HM := Lib.hid hm4
      have HB := Lib.hid hb4
      have hy0 := hx4.cell 0
      have hy1 := hx4.cell 1
      have hy2 := hx4.cell 2
      have hy3 := hx4.cell 3
      have hy4 := hx4.cell 4
      have hy5 := hx4.cell 5
      simp at hy0 hy1 hy2 hy3 hy4 hy5
      clear hx4 hm4
      refine (Err_calls _ _ _ _ hb4).mono ?_
      rintro e w5 ⟨rfl, rfl⟩
      go_wp2_with fail
      refine (Rest_calls _ _ _ _ HB.out).mono ?_
      rintro e w6 ⟨rfl, rfl⟩
      go_wp2_with fail
      go_ret
      exact ⟨ret_bool (by first | rfl | simp), HM.out.below0⟩
end Go.Proofs.Ytobifcffgkagbab.Bits
