/- Chapter 8's example; the law EventHolds. -/
import Derived.Test.YtdmipmkgoefidaaEvC6
import Derived.Test.YtdmipmkgoefidaaEvH6
namespace Go.Proofs.Ytdmipmkgoefidaa.Ev
open Go.RowKit Mem Bits EvH
set_option linter.unusedSimpArgs false
set_option linter.unusedVariables false
set_option maxRecDepth 100000

theorem awake_calls (w : World) : Calls Try.prog 10 #[] w fun e w' => e = .returned (.bool true) ∧ Mod w w' [] := by
  have c1 := fun w => encode_calls 0 0 0 ⟨#[97]⟩ (by decide) (.slice none 0 0) [] (by simp) (by decide) w (.inl ⟨rfl, none, 0, rfl⟩)
  rw [show encR 0 0 0 ⟨#[97]⟩ [] = ⟨#[0, 0, 0, 1, 97, 0]⟩ by decide +kernel, show checkR 0 0 0 ⟨#[97]⟩ [] = 0 by decide +kernel] at c1
  have c2 := fun w => holdsV_calls 5 1 9007199254740993 0 ⟨#[]⟩ 2 0 4845873199050653696 ⟨#[]⟩ (by decide) (by decide) (by decide) (by decide) w
  rw [show holdsV 5 1 9007199254740993 0 ⟨#[]⟩ 2 0 4845873199050653696 ⟨#[]⟩ = true by decide +kernel] at c2
  have c3 := fun w => holdsV_calls 1 1 1 0 ⟨#[]⟩ 2 0 4607182418800017408 ⟨#[]⟩ (by decide) (by decide) (by decide) (by decide) w
  rw [show holdsV 1 1 1 0 ⟨#[]⟩ 2 0 4607182418800017408 ⟨#[]⟩ = true by decide +kernel] at c3
  have C1 := Lib.hid c1
  have C2 := Lib.hid c2
  have C3 := Lib.hid c3
  have HB := Lib.hid (Blk.new w #[.int .i64 1, .int .i64 9007199254740993, .float .f64 0, .string ⟨#[]⟩] 42)
  have HM := Lib.hid ((Mod.refl w []).alloc (.cells #[.int .i64 1, .int .i64 9007199254740993, .float .f64 0, .string ⟨#[]⟩] 42))
  clear c1 c2 c3
  go_enter Try.func10, Try.ntmps10
  go_wp2_with fail
  refine (C1.out _).mono ?_
  rintro e w1 ⟨rfl, hm1⟩
  obtain ⟨b0, b1, b2, b3⟩ := Blk4 (HB.out.mod hm1 (by simp))
  go_wp2_with fail
  refine (C2.out _).mono ?_
  rintro e w2 ⟨rfl, hm2⟩
  go_wp2_with fail
  refine (C3.out _).mono ?_
  rintro e w3 ⟨rfl, hm3⟩
  go_wp2_with fail
  go_ret
  exact ⟨rfl, ((HM.out.trans0 hm1).trans0 hm2).trans0 hm3⟩

abbrev valSh : Open.Sh := .st (.cat (.int .i64) (.cat (.int .i64) (.cat .flt (.cat .str .nil))))
theorem wf_i64 {n : Int} (h : (Lit.int .i64 n).wf = true) : -9223372036854775808 ≤ n ∧ n ≤ 9223372036854775807 := by simpa [Lit.wf, IntKind.min, IntKind.max, IntKind.signed, IntKind.bits] using h
theorem wf_f64 {n : Nat} (h : (Lit.float .f64 n).wf = true) : n < 18446744073709551616 := by simpa [Lit.wf] using h
structure ValOK (v : Val) : Prop where
  k1 : -9223372036854775808 ≤ v.k
  k2 : v.k ≤ 9223372036854775807
  n1 : -9223372036854775808 ≤ v.n
  n2 : v.n ≤ 9223372036854775807
  f : v.f < 18446744073709551616
  s : v.s.size ≤ 140737488351232
theorem val_rd {w : World} {cs : List Value} (h : Open.Rd w valSh cs) : ∃ v : Val, cs = [.int .i64 v.k, .int .i64 v.n, .float .f64 v.f, .string v.s] ∧ ValOK v := by
  obtain ⟨_, _, rfl, ⟨k, rfl, hk⟩, _, _, rfl, ⟨n, rfl, hn⟩, _, _, rfl, ⟨f, rfl, hf⟩, _, _, rfl, ⟨s, rfl, hs⟩, rfl⟩ := h
  exact ⟨⟨k, n, f, s⟩, rfl, (wf_i64 hk).1, (wf_i64 hk).2, (wf_i64 hn).1, (wf_i64 hn).2, wf_f64 hf, hs⟩
theorem arr_of {cs : Array Value} {l : List Value} (h : cs.toList = l) : cs = l.toArray := by rw [← h]

theorem eventHolds_calls (w : World) (op : Int) (_ : (Lit.int .i64 op).wf = true) (ca : Array Value) (ha : Open.Rd w valSh ca.toList) (cb : Array Value) (hb : Open.Rd w valSh cb.toList) :
    Calls Try.prog 5 #[.int .i64 op, .agg ca, .agg cb] w fun e w' => e = .returned (.bool true) ∧ Below w.heap.size w w' := by
  obtain ⟨a, ea, oa⟩ := val_rd ha
  obtain ⟨b, eb, ob⟩ := val_rd hb
  obtain rfl := arr_of ea
  obtain rfl := arr_of eb
  obtain ⟨k, n, f, s⟩ := a
  obtain ⟨k', n', f', s'⟩ := b
  have H1 := Lib.hid (fun w => holdsV_calls op k n f s k' n' f' s' oa.n1 oa.n2 ob.n1 ob.n2 w)
  have H2 := Lib.hid (fun w => refHoldsV_calls op k n f s k' n' f' s' oa.n1 oa.n2 ob.n1 ob.n2 oa.f ob.f w)
  generalize holdsV op k n f s k' n' f' s' = x at *
  have AW := Lib.hid awake_calls
  have HB0 := Lib.hid ((Blk.new w #[.int .i64 k, .int .i64 n, .float .f64 f, .string s] 42).alloc (.cells #[.int .i64 k', .int .i64 n', .float .f64 f', .string s'] 42))
  have hb1 := Blk.new (w.alloc (.cells #[.int .i64 k, .int .i64 n, .float .f64 f, .string s] 42)) #[.int .i64 k', .int .i64 n', .float .f64 f', .string s'] 42
  rw [World.size_alloc] at hb1
  have HB1 := Lib.hid hb1
  have HM0 := Lib.hid (((Mod.refl w []).alloc (.cells #[.int .i64 k, .int .i64 n, .float .f64 f, .string s] 42)).alloc (.cells #[.int .i64 k', .int .i64 n', .float .f64 f', .string s'] 42))
  clear oa ob ea eb ha hb hb1
  cases x
  all_goals
    go_enter Try.func5, Try.ntmps5
    go_wp2_with fail
    generalize (w.alloc _).alloc _ = W at HB0 HB1 HM0 ⊢
    obtain ⟨v0, v1, v2, v3⟩ := BlkA HB0.out
    obtain ⟨u0, u1, u2, u3⟩ := BlkA HB1.out
    (refine wp_region_quiet_after (by kernel_rfl) (by kernel_rfl) ?_; (repeat (go_big_quiet_step ((first | (with_reducible refine after_of (AW.out _)) | (with_reducible refine after_of (H1.out _)) | (with_reducible refine after_of (H2.out _)))))); refine wpQuiet_nil ?_; intro wq hw'; obtain ⟨⟨wq2, hmq⟩, hw''⟩ := hw'; subst hw'')
    have M1 := Lib.hid (HM0.out.trans0 hmq)
    clear v0 v1 v2 v3 u0 u1 u2 u3 hmq
    go_wp2_with fail
    go_ret
    exact ⟨rfl, M1.out.below0⟩
end Go.Proofs.Ytdmipmkgoefidaa.Ev
