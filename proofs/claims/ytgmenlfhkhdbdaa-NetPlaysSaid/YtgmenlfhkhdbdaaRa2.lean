/- Messages: which entries and snapshots may be: the program's functions. -/
import Derived.Test.YtgmenlfhkhdbdaaRa1
import Derived.Test.YtgmenlfhkhdbdaaBits4
namespace Go.Proofs.Ytgmenlfhkhdbdaa.Ra
open Go.RowKit Mem Bits
set_option linter.unusedSimpArgs false
set_option linter.unusedVariables false
set_option maxRecDepth 100000

theorem ints_new (w : World) (l : List Int) : IntsV (w.alloc (.cells (l.map (Value.int .i64)).toArray 3)) (.slice (some ⟨w.heap.size, 0, none⟩) l.length l.length) l :=
  ⟨_, _, rfl, Nat.le_refl _, .inr ⟨_, 0, rfl, fun i hi => by rw [Nat.zero_add, (Blk.new w _ _).cell]; simp [hi]⟩⟩
theorem enB_of {x : En} (h : ixB x.t = true) (h2 : x.x.size ≤ 32768) (h3 : x.k = 2 ∧ (1 ≤ x.m ∧ x.m ≤ 127) ∧ x.x.size = 0 ∨ x.k ≠ 2 ∧ x.m = 0 ∧ (x.k = 0 ∨ x.k = 1 ∧ x.x.size = 0)) : enB x = true := by
  unfold enB
  rw [h]
  rcases h3 with ⟨h, h4, h5⟩ | ⟨h, h4, h5⟩
  · rw [if_pos h, inB_t.2 h4]; simp [h2, h5]
  · rw [if_neg h]; rcases h5 with h5 | ⟨h5, h6⟩ <;> simp [h2, h4, h5, *]
theorem enB_not {x : En} (h : ¬ (ixB x.t = true ∧ x.x.size ≤ 32768 ∧ (x.k = 2 ∧ (1 ≤ x.m ∧ x.m ≤ 127) ∧ x.x.size = 0 ∨ x.k ≠ 2 ∧ x.m = 0 ∧ (x.k = 0 ∨ x.k = 1 ∧ x.x.size = 0)))) : enB x = false := by
  cases hb : enB x
  · rfl
  · exfalso
    apply h
    unfold enB at hb
    simp only [Bool.and_eq_true, decide_eq_true_eq] at hb
    refine ⟨hb.1.1, hb.1.2, ?_⟩
    have h3 := hb.2
    by_cases hk : x.k = 2
    · rw [if_pos hk] at h3
      simp only [Bool.and_eq_true, decide_eq_true_eq, inB_t] at h3
      exact .inl ⟨hk, h3⟩
    · rw [if_neg hk] at h3
      simp only [Bool.and_eq_true, Bool.or_eq_true, decide_eq_true_eq] at h3
      exact .inr ⟨hk, h3⟩
theorem enB_iff {x : En} : enB x = true ↔ (ixB x.t = true ∧ x.x.size ≤ 32768 ∧ (x.k = 2 ∧ (1 ≤ x.m ∧ x.m ≤ 127) ∧ x.x.size = 0 ∨ x.k ≠ 2 ∧ x.m = 0 ∧ (x.k = 0 ∨ x.k = 1 ∧ x.x.size = 0))) := by
  constructor
  · intro h
    cases Classical.em (ixB x.t = true ∧ x.x.size ≤ 32768 ∧ (x.k = 2 ∧ (1 ≤ x.m ∧ x.m ≤ 127) ∧ x.x.size = 0 ∨ x.k ≠ 2 ∧ x.m = 0 ∧ (x.k = 0 ∨ x.k = 1 ∧ x.x.size = 0))) with
    | inl h' => exact h'
    | inr h' => rw [enB_not h'] at h; cases h
  · rintro ⟨h1, h2, h3⟩
    exact enB_of h1 h2 h3
set_option maxHeartbeats 4000000 in
theorem entry_calls (x : En) (w : World) : Calls Try.prog 75 #[enV x] w fun e w' => e = .returned (.bool (enB x)) ∧ Mod w w' [] := by
  have HB := Lib.hid (enB_iff (x := x))
  generalize enB x = B at *
  obtain ⟨t, k, m, s⟩ := x
  simp only at HB ⊢
  have HM0 := Lib.hid ((Mod.refl w []).alloc (.cells #[.int .i64 t, .int .i64 k, .int .i64 m, .string s] 77))
  have hb := Blk.new w #[.int .i64 t, .int .i64 k, .int .i64 m, .string s] 77
  have HM1 := Lib.hid (HM0.out.alloc (.cells #[.int .i64 t] 3))
  have hi1 := ints_new (w.alloc (.cells #[.int .i64 t, .int .i64 k, .int .i64 m, .string s] 77)) [t]
  have XC := Lib.hid (index_calls _ _ _ hi1 (by simp))
  simp only [World.size_alloc, List.length_cons, List.length_nil, List.map_cons, List.map_nil, Nat.zero_add] at XC
  have IC := Lib.hid (fun w => in_calls m 1 127 w)
  have HB0 := Lib.hid (hb.alloc (.cells #[.int .i64 t] 3))
  have ha : [t].all ixB = ixB t := by simp
  rw [ha] at XC
  clear hb hi1 ha
  by_cases h0 : k = 0
  · subst h0
    by_cases ht : ixB t = true
    · rw [ht] at XC
      by_cases hm : m = 0
      · subst hm
        have hr := Lib.hid (show decide ((s.size : Int) ≤ 32768) = B from Bool.eq_iff_iff.2 (by rw [HB.out, decide_eq_true_iff]; simp only [ht]; constructor <;> intro h <;> simp at * <;> omega))
        clear HB
        go_enter Try.func75, Try.ntmps75
        go_wp2_with fail
        (with_reducible refine XC.out.mono ?_)
        rintro e w1 ⟨rfl, hm1⟩
        have HM2 := Lib.hid (HM1.out.trans0 hm1)
        have HB1 := HB0.out.mod hm1 (by simp)
        have c2 := HB1.cell 2
        have c3 := HB1.cell 3
        clear hm1 HB1
        go_wp2_with fail
        go_ret
        exact ⟨ret_bool hr.out, HM2.out⟩
      · have hr := Lib.hid (show false = B from by cases hB : B; rfl; have := HB.out.1 hB; simp [hm] at this)
        have hmb : (m == 0) = false := by simpa using hm
        clear HB
        go_enter Try.func75, Try.ntmps75
        go_wp2_with fail
        (with_reducible refine XC.out.mono ?_)
        rintro e w1 ⟨rfl, hm1⟩
        have HM2 := Lib.hid (HM1.out.trans0 hm1)
        have HB1 := HB0.out.mod hm1 (by simp)
        have c2 := HB1.cell 2
        have c3 := HB1.cell 3
        clear hm1 HB1
        go_wp2_with fail
        go_ret
        exact ⟨ret_bool hr.out, HM2.out⟩
    · have ht' : ixB t = false := by simpa using ht
      have hr := Lib.hid (show false = B from by cases hB : B; rfl; have := HB.out.1 hB; simp [ht'] at this)
      rw [ht'] at XC
      clear HB ht ht'
      go_enter Try.func75, Try.ntmps75
      go_wp2_with fail
      (with_reducible refine XC.out.mono ?_)
      rintro e w1 ⟨rfl, hm1⟩
      have HM2 := Lib.hid (HM1.out.trans0 hm1)
      have HB1 := HB0.out.mod hm1 (by simp)
      have c2 := HB1.cell 2
      have c3 := HB1.cell 3
      clear hm1 HB1
      go_wp2_with fail
      go_ret
      exact ⟨ret_bool hr.out, HM2.out⟩
  have h0b : (k == 0) = false := by simpa using h0
  by_cases h1 : k = 1
  · subst h1
    by_cases ht : ixB t = true
    · rw [ht] at XC
      by_cases hm : m = 0
      · subst hm
        by_cases hs : s.size = 0
        · have he := isEmpty_zero s hs
          have hr := Lib.hid (show true = B from (HB.out.2 ⟨ht, by omega, .inr ⟨by decide, rfl, .inr ⟨rfl, hs⟩⟩⟩).symm)
          clear HB
          go_enter Try.func75, Try.ntmps75
          go_wp2_with fail
          (with_reducible refine XC.out.mono ?_)
          rintro e w1 ⟨rfl, hm1⟩
          have HM2 := Lib.hid (HM1.out.trans0 hm1)
          have HB1 := HB0.out.mod hm1 (by simp)
          have c2 := HB1.cell 2
          have c3 := HB1.cell 3
          clear hm1 HB1
          go_wp2_with fail
          go_ret
          exact ⟨ret_bool hr.out, HM2.out⟩
        · have he := isEmpty_size s (by omega)
          have hr := Lib.hid (show false = B from by cases hB : B; rfl; have := HB.out.1 hB; simp [hs] at this)
          clear HB
          go_enter Try.func75, Try.ntmps75
          go_wp2_with fail
          (with_reducible refine XC.out.mono ?_)
          rintro e w1 ⟨rfl, hm1⟩
          have HM2 := Lib.hid (HM1.out.trans0 hm1)
          have HB1 := HB0.out.mod hm1 (by simp)
          have c2 := HB1.cell 2
          have c3 := HB1.cell 3
          clear hm1 HB1
          go_wp2_with fail
          go_ret
          exact ⟨ret_bool hr.out, HM2.out⟩
      · have hr := Lib.hid (show false = B from by cases hB : B; rfl; have := HB.out.1 hB; simp [hm] at this)
        have hmb : (m == 0) = false := by simpa using hm
        clear HB
        go_enter Try.func75, Try.ntmps75
        go_wp2_with fail
        (with_reducible refine XC.out.mono ?_)
        rintro e w1 ⟨rfl, hm1⟩
        have HM2 := Lib.hid (HM1.out.trans0 hm1)
        have HB1 := HB0.out.mod hm1 (by simp)
        have c2 := HB1.cell 2
        have c3 := HB1.cell 3
        clear hm1 HB1
        go_wp2_with fail
        go_ret
        exact ⟨ret_bool hr.out, HM2.out⟩
    · have ht' : ixB t = false := by simpa using ht
      have hr := Lib.hid (show false = B from by cases hB : B; rfl; have := HB.out.1 hB; simp [ht'] at this)
      rw [ht'] at XC
      clear HB ht ht'
      go_enter Try.func75, Try.ntmps75
      go_wp2_with fail
      (with_reducible refine XC.out.mono ?_)
      rintro e w1 ⟨rfl, hm1⟩
      have HM2 := Lib.hid (HM1.out.trans0 hm1)
      have HB1 := HB0.out.mod hm1 (by simp)
      have c2 := HB1.cell 2
      have c3 := HB1.cell 3
      clear hm1 HB1
      go_wp2_with fail
      go_ret
      exact ⟨ret_bool hr.out, HM2.out⟩
  have h1b : (k == 1) = false := by simpa using h1
  by_cases h2 : k = 2
  · subst h2
    by_cases ht : ixB t = true
    · rw [ht] at XC
      by_cases hm : inB m 1 127 = true
      · rw [hm] at IC
        have hm' := inB_t.1 hm
        by_cases hs : s.size = 0
        · have he := isEmpty_zero s hs
          have hr := Lib.hid (show true = B from (HB.out.2 ⟨ht, by omega, .inl ⟨rfl, hm', hs⟩⟩).symm)
          clear HB
          go_enter Try.func75, Try.ntmps75
          go_wp2_with fail
          (with_reducible refine XC.out.mono ?_)
          rintro e w1 ⟨rfl, hm1⟩
          have HM2 := Lib.hid (HM1.out.trans0 hm1)
          have HB1 := HB0.out.mod hm1 (by simp)
          have c2 := HB1.cell 2
          have c3 := HB1.cell 3
          clear hm1 HB1
          go_wp2_with fail
          (with_reducible refine (IC.out _).mono ?_)
          rintro e w2 ⟨rfl, rfl⟩
          go_wp2_with fail
          go_ret
          exact ⟨ret_bool hr.out, HM2.out⟩
        · have he := isEmpty_size s (by omega)
          have hr := Lib.hid (show false = B from by cases hB : B; rfl; have := HB.out.1 hB; simp [hs] at this)
          clear HB
          go_enter Try.func75, Try.ntmps75
          go_wp2_with fail
          (with_reducible refine XC.out.mono ?_)
          rintro e w1 ⟨rfl, hm1⟩
          have HM2 := Lib.hid (HM1.out.trans0 hm1)
          have HB1 := HB0.out.mod hm1 (by simp)
          have c2 := HB1.cell 2
          have c3 := HB1.cell 3
          clear hm1 HB1
          go_wp2_with fail
          (with_reducible refine (IC.out _).mono ?_)
          rintro e w2 ⟨rfl, rfl⟩
          go_wp2_with fail
          go_ret
          exact ⟨ret_bool hr.out, HM2.out⟩
      · have hm' : inB m 1 127 = false := by simpa using hm
        have hr := Lib.hid (show false = B from by cases hB : B; rfl; have := HB.out.1 hB; rw [inB_f] at hm'; simp at this; omega)
        rw [hm'] at IC
        clear HB
        go_enter Try.func75, Try.ntmps75
        go_wp2_with fail
        (with_reducible refine XC.out.mono ?_)
        rintro e w1 ⟨rfl, hm1⟩
        have HM2 := Lib.hid (HM1.out.trans0 hm1)
        have HB1 := HB0.out.mod hm1 (by simp)
        have c2 := HB1.cell 2
        have c3 := HB1.cell 3
        clear hm1 HB1
        go_wp2_with fail
        (with_reducible refine (IC.out _).mono ?_)
        rintro e w2 ⟨rfl, rfl⟩
        go_wp2_with fail
        go_ret
        exact ⟨ret_bool hr.out, HM2.out⟩
    · have ht' : ixB t = false := by simpa using ht
      have hr := Lib.hid (show false = B from by cases hB : B; rfl; have := HB.out.1 hB; simp [ht'] at this)
      rw [ht'] at XC
      clear HB ht ht'
      go_enter Try.func75, Try.ntmps75
      go_wp2_with fail
      (with_reducible refine XC.out.mono ?_)
      rintro e w1 ⟨rfl, hm1⟩
      have HM2 := Lib.hid (HM1.out.trans0 hm1)
      have HB1 := HB0.out.mod hm1 (by simp)
      have c2 := HB1.cell 2
      have c3 := HB1.cell 3
      clear hm1 HB1
      go_wp2_with fail
      go_ret
      exact ⟨ret_bool hr.out, HM2.out⟩
  have h2b : (k == 2) = false := by simpa using h2
  have hr := Lib.hid (show false = B from by cases hB : B; rfl; have := HB.out.1 hB; simp [h0, h1, h2] at this)
  clear HB
  go_enter Try.func75, Try.ntmps75
  go_wp2_with fail
  go_ret
  exact ⟨ret_bool hr.out, HM0.out⟩
set_option maxHeartbeats 4000000 in
theorem en1_calls (x : En) (w : World) : Calls Try.prog 74 #[enV x] w fun e w' => e = .returned (.bool (!enB x)) ∧ Mod w w' [] := by
  have EC := Lib.hid (fun w => entry_calls x w)
  generalize enB x = B at *
  obtain ⟨t, k, m, s⟩ := x
  show Calls _ _ #[.agg #[.int .i64 t, .int .i64 k, .int .i64 m, .string s]] _ _
  have EC' : Hid (∀ w, Calls Try.prog 75 #[.agg #[.int .i64 t, .int .i64 k, .int .i64 m, .string s]] w fun e w' => e = .returned (.bool B) ∧ Mod w w' []) := EC
  clear EC
  have HM0 := Lib.hid ((Mod.refl w []).alloc (.cells #[.int .i64 t, .int .i64 k, .int .i64 m, .string s] 77))
  go_enter Try.func74, Try.ntmps74
  go_wp2_with fail
  (with_reducible refine (EC'.out _).mono ?_)
  rintro e w1 ⟨rfl, hm1⟩
  have HM1 := Lib.hid (HM0.out.trans0 hm1)
  clear hm1
  go_wp2_with fail
  go_ret
  exact ⟨rfl, HM1.out⟩
end Go.Proofs.Ytgmenlfhkhdbdaa.Ra
