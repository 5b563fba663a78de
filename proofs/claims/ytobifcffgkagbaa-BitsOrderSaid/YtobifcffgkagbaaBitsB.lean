/- The law on the order of bytes. -/
import Derived.Test.YtobifcffgkagbaaBitsA
import Derived.Test.YtobifcffgkagbaaOpen2
import Derived.Test.YtobifcffgkagbaaBo
namespace Go.Proofs.Ytobifcffgkagbaa.Bits
open Go.RowKit Mem
set_option linter.unusedSimpArgs false
set_option linter.unusedVariables false

theorem order_lt (a b : ByteArray) (h : Op.bytesLess a.toList b.toList = true) (w : World) :
    Calls Try.prog 35 #[.string a, .string b] w fun e w' => e = .returned (.int .i64 (-1)) ∧ w = w' := by
  go_enter Try.func35, Try.ntmps35
  go_wp2
  go_ret
  exact ⟨rfl, rfl⟩
theorem order_gt (a b : ByteArray) (h : Op.bytesLess a.toList b.toList = false) (h2 : (a.toList == b.toList) = false) (w : World) :
    Calls Try.prog 35 #[.string a, .string b] w fun e w' => e = .returned (.int .i64 1) ∧ w = w' := by
  go_enter Try.func35, Try.ntmps35
  go_wp2
  go_ret
  exact ⟨rfl, rfl⟩
theorem order_eq (a b : ByteArray) (h : Op.bytesLess a.toList b.toList = false) (h2 : (a.toList == b.toList) = true) (w : World) :
    Calls Try.prog 35 #[.string a, .string b] w fun e w' => e = .returned (.int .i64 0) ∧ w = w' := by
  go_enter Try.func35, Try.ntmps35
  go_wp2
  go_ret
  exact ⟨rfl, rfl⟩

theorem order_parts (a b x y : ByteArray) (h : Bt.Parts a.data.toList b.data.toList) (w : World) :
    (Calls Try.prog 35 #[.string (a ++ x), .string (b ++ y)] w fun e w' => e = .returned (.int .i64 (-1)) ∧ w = w') ∧
    (Calls Try.prog 35 #[.string (b ++ y), .string (a ++ x)] w fun e w' => e = .returned (.int .i64 1) ∧ w = w') := by
  have hp := Bt.less_parts (h.app x.data.toList y.data.toList)
  have e1 : (a ++ x).toList = a.data.toList ++ x.data.toList := by rw [_root_.Go.ByteArray.toList_eq]; simp
  have e2 : (b ++ y).toList = b.data.toList ++ y.data.toList := by rw [_root_.Go.ByteArray.toList_eq]; simp
  constructor
  · exact order_lt _ _ (by rw [e1, e2]; exact hp.1) w
  · exact order_gt _ _ (by rw [e1, e2]; exact hp.2.1) (by rw [e1, e2, beq_eq_false_iff_ne]; exact fun h => hp.2.2 h.symm) w
theorem order_parts0 (a b : ByteArray) (h : Bt.Parts a.data.toList b.data.toList) (w : World) :
    (Calls Try.prog 35 #[.string a, .string b] w fun e w' => e = .returned (.int .i64 (-1)) ∧ w = w') ∧
    (Calls Try.prog 35 #[.string b, .string a] w fun e w' => e = .returned (.int .i64 1) ∧ w = w') := by
  have hp := Bt.less_parts h
  have e1 : a.toList = a.data.toList := _root_.Go.ByteArray.toList_eq a
  have e2 : b.toList = b.data.toList := _root_.Go.ByteArray.toList_eq b
  constructor
  · exact order_lt _ _ (by rw [e1, e2]; exact hp.1) w
  · exact order_gt _ _ (by rw [e1, e2]; exact hp.2.1) (by rw [e1, e2, beq_eq_false_iff_ne]; exact fun h => hp.2.2 h.symm) w

theorem bitsOrder_calls (w : World) (a : Int) (ha' : (Lit.int .u64 a).wf = true) (b : Int) (hb' : (Lit.int .u64 b).wf = true) (x : ByteArray × ByteArray) (hx : x.1.size ≤ 140737488351232 ∧ x.2.size ≤ 140737488351232) :
    Calls Try.prog 11 #[.int .u64 a, .int .u64 b, .agg #[.string x.1, .string x.2]] w fun e w' => e = .returned (.bool true) ∧ Below w.heap.size w w' := by
  obtain ⟨h0, h1⟩ : 0 ≤ a ∧ a ≤ 18446744073709551615 := by simpa [Lit.wf, IntKind.min, IntKind.max, IntKind.signed, IntKind.bits] using ha'
  obtain ⟨h2, h3⟩ : 0 ≤ b ∧ b ≤ 18446744073709551615 := by simpa [Lit.wf, IntKind.min, IntKind.max, IntKind.signed, IntKind.bits] using hb'
  obtain ⟨a, rfl⟩ := Int.eq_ofNat_of_zero_le h0
  obtain ⟨b, rfl⟩ := Int.eq_ofNat_of_zero_le h2
  obtain ⟨x, y⟩ := x
  obtain ⟨hx, hy⟩ := hx
  simp only at hx hy ⊢
  have n1 := fun w => num_calls a (by omega) w
  have n2 := fun w => num_calls b (by omega) w
  have sa := Bt.numS_size_le a
  have sb := Bt.numS_size_le b
  have N1 := Lib.hid n1
  have N2 := Lib.hid n2
  clear n1 n2 ha' hb'
  rcases Nat.lt_trichotomy a b with h | h | h
  · have hp := Bt.numS_parts a b h (by omega)
    generalize Bt.numS a = s at *
    generalize Bt.numS b = t at *
    have HP := Lib.hid hp
    clear hp
    go_enter Try.func11, Try.ntmps11
    go_wp2_with fail
    refine (N1.out _).mono ?_
    rintro e w1 ⟨rfl, hm1⟩
    go_wp2_with fail
    refine (N2.out _).mono ?_
    rintro e w2 ⟨rfl, hm2⟩
    go_wp2_with fail
    refine (awake_calls _).mono ?_
    rintro e w3 ⟨rfl, hm3⟩
    have hm := (hm1.trans0 hm2).trans0 hm3
    have hb : Blk w3 w.heap.size #[.string x, .string y] _ := (Blk.new w #[.string x, .string y] _).mod hm (by simp)
    have hc0 := hb.cell 0
    have hc1 := hb.cell 1
    simp at hc0 hc1
    have HM := Lib.hid hm
    clear hm hm1 hm2 hm3 hb
    go_wp2_with fail
    refine (order_parts0 s t HP.out _).1.mono ?_
    rintro e w4 ⟨rfl, rfl⟩
    go_wp2_with fail
    refine (order_parts s t x y HP.out _).1.mono ?_
    rintro e w4 ⟨rfl, rfl⟩
    go_wp2_with fail
    go_ret
    exact ⟨rfl, (((Mod.refl w []).alloc _).trans0 HM.out).below0⟩
  · subst h
    generalize Bt.numS a = s at *
    have hl := Bt.less_self s.toList
    go_enter Try.func11, Try.ntmps11
    go_wp2_with fail
    refine (N1.out _).mono ?_
    rintro e w1 ⟨rfl, hm1⟩
    go_wp2_with fail
    refine (N2.out _).mono ?_
    rintro e w2 ⟨rfl, hm2⟩
    go_wp2_with fail
    refine (awake_calls _).mono ?_
    rintro e w3 ⟨rfl, hm3⟩
    have hm := (hm1.trans0 hm2).trans0 hm3
    have hb : Blk w3 w.heap.size #[.string x, .string y] _ := (Blk.new w #[.string x, .string y] _).mod hm (by simp)
    have hc0 := hb.cell 0
    have hc1 := hb.cell 1
    simp at hc0 hc1
    have HM := Lib.hid hm
    clear hm hm1 hm2 hm3 hb
    go_wp2_with fail
    refine (order_eq s s hl (by simp) _).mono ?_
    rintro e w4 ⟨rfl, rfl⟩
    go_wp2_with fail
    go_ret
    exact ⟨rfl, (((Mod.refl w []).alloc _).trans0 HM.out).below0⟩
  · have hp := Bt.numS_parts b a h (by omega)
    generalize Bt.numS a = s at *
    generalize Bt.numS b = t at *
    have HP := Lib.hid hp
    clear hp
    go_enter Try.func11, Try.ntmps11
    go_wp2_with fail
    refine (N1.out _).mono ?_
    rintro e w1 ⟨rfl, hm1⟩
    go_wp2_with fail
    refine (N2.out _).mono ?_
    rintro e w2 ⟨rfl, hm2⟩
    go_wp2_with fail
    refine (awake_calls _).mono ?_
    rintro e w3 ⟨rfl, hm3⟩
    have hm := (hm1.trans0 hm2).trans0 hm3
    have hb : Blk w3 w.heap.size #[.string x, .string y] _ := (Blk.new w #[.string x, .string y] _).mod hm (by simp)
    have hc0 := hb.cell 0
    have hc1 := hb.cell 1
    simp at hc0 hc1
    have HM := Lib.hid hm
    clear hm hm1 hm2 hm3 hb
    go_wp2_with fail
    refine (order_parts0 t s HP.out _).2.mono ?_
    rintro e w4 ⟨rfl, rfl⟩
    go_wp2_with fail
    refine (order_parts t s y x HP.out _).2.mono ?_
    rintro e w4 ⟨rfl, rfl⟩
    go_wp2_with fail
    go_ret
    exact ⟨rfl, (((Mod.refl w []).alloc _).trans0 HM.out).below0⟩
end Go.Proofs.Ytobifcffgkagbaa.Bits
