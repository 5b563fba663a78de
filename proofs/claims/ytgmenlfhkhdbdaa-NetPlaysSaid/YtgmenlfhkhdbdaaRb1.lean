/- Which messages may be: the reference's functions. (Printed by mkRb1.py.) -/
import Derived.Test.YtgmenlfhkhdbdaaRa7
namespace Go.Proofs.Ytgmenlfhkhdbdaa.Ra
open Go.RowKit Mem Bits
set_option linter.unusedSimpArgs false
set_option linter.unusedVariables false
set_option maxRecDepth 100000

theorem rin_calls (n b : Int) (w : World) : Calls Try.prog 76 #[.int .i64 n, .int .i64 b] w fun e w' => e = .returned (.bool (inB n 0 b)) ∧ w = w' := by
  by_cases h1 : 0 ≤ n
  · by_cases h2 : n ≤ b
    · rw [inB_t.2 ⟨h1, h2⟩]
      go_enter Try.func76, Try.ntmps76
      go_wp2_with fail
      go_ret
      exact ⟨ret_bool (by simp [h1, h2]), rfl⟩
    · rw [inB_f.2 (fun h => h2 h.2)]
      go_enter Try.func76, Try.ntmps76
      go_wp2_with fail
      go_ret
      exact ⟨ret_bool (by simp [h1, h2]), rfl⟩
  · rw [inB_f.2 (fun h => h1 h.1)]
    go_enter Try.func76, Try.ntmps76
    go_wp2_with fail
    go_ret
    exact ⟨ret_bool (by simp [h1]), rfl⟩
theorem snB_iff {i t m : Int} {x : ByteArray} : snB i t m x = true ↔ (0 ≤ i ∧ i ≤ 549755813888) ∧ (0 ≤ t ∧ t ≤ 549755813888) ∧ (0 ≤ m ∧ m ≤ 127) ∧ x.size ≤ 262144 := by
  unfold snB
  simp only [Bool.and_eq_true, decide_eq_true_eq, inB_t, ixB, and_assoc]
set_option maxHeartbeats 4000000 in
theorem rsnap_calls (i t m : Int) (s : ByteArray) (w : World) : Calls Try.prog 77 #[snV i t m s] w fun e w' => e = .returned (.bool (snB i t m s)) ∧ Mod w w' [] := by
  have HB := Lib.hid (snB_iff (i := i) (t := t) (m := m) (x := s))
  generalize snB i t m s = B at *
  have HM := Lib.hid ((Mod.refl w []).alloc (.cells #[.int .i64 i, .int .i64 t, .int .i64 m, .string s] 86))
  by_cases h0 : 0 ≤ i
  · by_cases h1 : i ≤ 549755813888
    · by_cases h2 : 0 ≤ t
      · by_cases h3 : t ≤ 549755813888
        · by_cases h4 : 0 ≤ m
          · by_cases h5 : m ≤ 127
            · have hr := Lib.hid (show decide ((s.size : Int) ≤ 262144) = B from by rw [Bool.eq_iff_iff, HB.out, decide_eq_true_iff]; constructor <;> intro h <;> omega)
              clear HB
              go_enter Try.func77, Try.ntmps77
              go_wp2_with fail
              go_ret
              exact ⟨ret_bool (hr.out), HM.out⟩
            · have hr := Lib.hid (show false = B from by cases hB : B; rfl; have := HB.out.1 hB; omega)
              clear HB
              go_enter Try.func77, Try.ntmps77
              go_wp2_with fail
              go_ret
              exact ⟨ret_bool (hr.out), HM.out⟩
          · have hr := Lib.hid (show false = B from by cases hB : B; rfl; have := HB.out.1 hB; omega)
            clear HB
            go_enter Try.func77, Try.ntmps77
            go_wp2_with fail
            go_ret
            exact ⟨ret_bool (hr.out), HM.out⟩
        · have hr := Lib.hid (show false = B from by cases hB : B; rfl; have := HB.out.1 hB; omega)
          clear HB
          go_enter Try.func77, Try.ntmps77
          go_wp2_with fail
          go_ret
          exact ⟨ret_bool (hr.out), HM.out⟩
      · have hr := Lib.hid (show false = B from by cases hB : B; rfl; have := HB.out.1 hB; omega)
        clear HB
        go_enter Try.func77, Try.ntmps77
        go_wp2_with fail
        go_ret
        exact ⟨ret_bool (hr.out), HM.out⟩
    · have hr := Lib.hid (show false = B from by cases hB : B; rfl; have := HB.out.1 hB; omega)
      clear HB
      go_enter Try.func77, Try.ntmps77
      go_wp2_with fail
      go_ret
      exact ⟨ret_bool (hr.out), HM.out⟩
  · have hr := Lib.hid (show false = B from by cases hB : B; rfl; have := HB.out.1 hB; omega)
    clear HB
    go_enter Try.func77, Try.ntmps77
    go_wp2_with fail
    go_ret
    exact ⟨ret_bool (hr.out), HM.out⟩
set_option maxHeartbeats 8000000 in
theorem rentry_calls (x : En) (w : World) : Calls Try.prog 78 #[enV x] w fun e w' => e = .returned (.bool (enB x)) ∧ Mod w w' [] := by
  have HB := Lib.hid (enB_iff (x := x))
  generalize enB x = B at *
  obtain ⟨t, k, m, s⟩ := x
  simp only at HB
  show Calls _ _ #[.agg #[.int .i64 t, .int .i64 k, .int .i64 m, .string s]] _ _
  have HM := Lib.hid ((Mod.refl w []).alloc (.cells #[.int .i64 t, .int .i64 k, .int .i64 m, .string s] 142))
  have IC : Hid (∀ w, Calls Try.prog 76 #[.int .i64 t, .int .i64 549755813888] w fun e w' => e = .returned (.bool (ixB t)) ∧ w = w') := Lib.hid (fun w => rin_calls t 549755813888 w)
  by_cases ht : ixB t = true
  · rw [ht] at IC
    by_cases hz : s.size ≤ 32768
    · have hz' : (s.size : Int) ≤ 32768 := by omega
      by_cases hk : k = 2
      · subst hk
        by_cases h1 : 1 ≤ m
        · by_cases h2 : m ≤ 127
          · by_cases hs : s.size = 0
            · have he := isEmpty_zero s hs
              have hr := Lib.hid (show true = B from (HB.out.2 ⟨ht, hz, .inl ⟨rfl, ⟨h1, h2⟩, hs⟩⟩).symm)
              clear HB
              go_enter Try.func78, Try.ntmps78
              go_wp2_with fail
              (with_reducible refine (IC.out _).mono ?_)
              rintro e w1 ⟨rfl, rfl⟩
              go_wp2_with fail
              go_ret
              exact ⟨ret_bool hr.out, HM.out⟩
            · have he := isEmpty_size s (by omega)
              have hr := Lib.hid (show false = B from by cases hB : B; rfl; have := HB.out.1 hB; omega)
              clear HB
              go_enter Try.func78, Try.ntmps78
              go_wp2_with fail
              (with_reducible refine (IC.out _).mono ?_)
              rintro e w1 ⟨rfl, rfl⟩
              go_wp2_with fail
              go_ret
              exact ⟨ret_bool hr.out, HM.out⟩
          · have hr := Lib.hid (show false = B from by cases hB : B; rfl; have := HB.out.1 hB; omega)
            clear HB
            go_enter Try.func78, Try.ntmps78
            go_wp2_with fail
            (with_reducible refine (IC.out _).mono ?_)
            rintro e w1 ⟨rfl, rfl⟩
            go_wp2_with fail
            go_ret
            exact ⟨ret_bool hr.out, HM.out⟩
        · have hr := Lib.hid (show false = B from by cases hB : B; rfl; have := HB.out.1 hB; omega)
          clear HB
          go_enter Try.func78, Try.ntmps78
          go_wp2_with fail
          (with_reducible refine (IC.out _).mono ?_)
          rintro e w1 ⟨rfl, rfl⟩
          go_wp2_with fail
          go_ret
          exact ⟨ret_bool hr.out, HM.out⟩
      · have hkb : (k == 2) = false := by simpa using hk
        by_cases hm : m = 0
        · subst hm
          by_cases h0 : k = 0
          · subst h0
            have hr := Lib.hid (show true = B from (HB.out.2 ⟨ht, hz, .inr ⟨hk, rfl, .inl rfl⟩⟩).symm)
            clear HB
            go_enter Try.func78, Try.ntmps78
            go_wp2_with fail
            (with_reducible refine (IC.out _).mono ?_)
            rintro e w1 ⟨rfl, rfl⟩
            go_wp2_with fail
            go_ret
            exact ⟨ret_bool hr.out, HM.out⟩
          · have h0b : (k == 0) = false := by simpa using h0
            by_cases h1 : k = 1
            · subst h1
              by_cases hs : s.size = 0
              · have he := isEmpty_zero s hs
                have hr := Lib.hid (show true = B from (HB.out.2 ⟨ht, hz, .inr ⟨hk, rfl, .inr ⟨rfl, hs⟩⟩⟩).symm)
                clear HB
                go_enter Try.func78, Try.ntmps78
                go_wp2_with fail
                (with_reducible refine (IC.out _).mono ?_)
                rintro e w1 ⟨rfl, rfl⟩
                go_wp2_with fail
                go_ret
                exact ⟨ret_bool hr.out, HM.out⟩
              · have he := isEmpty_size s (by omega)
                have hr := Lib.hid (show false = B from by cases hB : B; rfl; have := HB.out.1 hB; omega)
                clear HB
                go_enter Try.func78, Try.ntmps78
                go_wp2_with fail
                (with_reducible refine (IC.out _).mono ?_)
                rintro e w1 ⟨rfl, rfl⟩
                go_wp2_with fail
                go_ret
                exact ⟨ret_bool hr.out, HM.out⟩
            · have h1b : (k == 1) = false := by simpa using h1
              have hr := Lib.hid (show false = B from by cases hB : B; rfl; have := HB.out.1 hB; omega)
              clear HB
              go_enter Try.func78, Try.ntmps78
              go_wp2_with fail
              (with_reducible refine (IC.out _).mono ?_)
              rintro e w1 ⟨rfl, rfl⟩
              go_wp2_with fail
              go_ret
              exact ⟨ret_bool hr.out, HM.out⟩
        · have hmb : (m == 0) = false := by simpa using hm
          have hr := Lib.hid (show false = B from by cases hB : B; rfl; have := HB.out.1 hB; omega)
          clear HB
          go_enter Try.func78, Try.ntmps78
          go_wp2_with fail
          (with_reducible refine (IC.out _).mono ?_)
          rintro e w1 ⟨rfl, rfl⟩
          go_wp2_with fail
          go_ret
          exact ⟨ret_bool hr.out, HM.out⟩
    · have hz' : ¬ (s.size : Int) ≤ 32768 := by omega
      have hr := Lib.hid (show false = B from by cases hB : B; rfl; have := HB.out.1 hB; omega)
      clear HB
      go_enter Try.func78, Try.ntmps78
      go_wp2_with fail
      (with_reducible refine (IC.out _).mono ?_)
      rintro e w1 ⟨rfl, rfl⟩
      go_wp2_with fail
      go_ret
      exact ⟨ret_bool hr.out, HM.out⟩
  · have ht' : ixB t = false := by simpa using ht
    rw [ht'] at IC
    have hr := Lib.hid (show false = B from by cases hB : B; rfl; have := HB.out.1 hB; exact absurd this.1 ht)
    clear HB
    go_enter Try.func78, Try.ntmps78
    go_wp2_with fail
    (with_reducible refine (IC.out _).mono ?_)
    rintro e w1 ⟨rfl, rfl⟩
    go_wp2_with fail
    go_ret
    exact ⟨ret_bool hr.out, HM.out⟩
end Go.Proofs.Ytgmenlfhkhdbdaa.Ra
