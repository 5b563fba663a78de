/- Messages: which may be: the program's functions. -/
import Derived.Test.YtgmenlfhkhdbdaaRa2
import Derived.Test.YtgmenlfhkhdbdaaQuiet
namespace Go.Proofs.Ytgmenlfhkhdbdaa.Ra
open Go.RowKit Mem Bits
set_option linter.unusedSimpArgs false
set_option linter.unusedVariables false
set_option maxRecDepth 100000

set_option maxHeartbeats 2000000 in
theorem enfind_calls (v : Value) (l : List En) (w : World) (h : EnsV w v l) (hn : l.length ≤ 100000) :
    Calls Try.prog 119 #[v, .func (.func 74) #[] #[]] w (FindP (l.all enB) w) := by
  obtain ⟨ad, cap, rfl, hc, hr⟩ := h
  have HR := Lib.hid hr
  have hn' : (l.length : Int) ≤ 100000 := by omega
  clear hr hc
  go_enter Try.func119, Try.ntmps119
  go_wp2_with fail
  go_loopw [8] (fun vi wr => ∃ i : Nat, i ≤ l.length ∧ vi = .int .i64 (i : Int) ∧ Mod w wr [] ∧ Hid (∀ t (ht : t < l.length), t < i → enB l[t] = true)) (fun vi _ => l.length + 1 - (intOf vi).toNat)
  case atStart => exact ⟨0, Nat.zero_le _, rfl, Mod.refl _ _, Lib.hid (fun t _ h => by omega)⟩
  case round =>
    obtain ⟨i, hi, rfl, hm, HJ⟩ := hrel
    have HM := Lib.hid hm
    clear hm
    by_cases hlt : i < l.length
    · have hlt' : (i : Int) < l.length := by omega
      obtain ⟨b, off, rfl, hcs⟩ := HR.out.resolve_left (fun h => by rw [h] at hlt; simp at hlt)
      obtain ⟨e0, e1, e2, e3⟩ := (hcs i hlt).mod HM.out
      have HX := Lib.hid (fun h => all_bad (p := enB) hlt h)
      have HY : Hid (enB l[i] = true → ∀ t (ht : t < l.length), t < i + 1 → enB l[t] = true) := Lib.hid (fun h t ht hti => by
        by_cases e : t = i
        · subst e; exact h
        · exact HJ.out t ht (by omega))
      clear hcs HR HJ
      generalize l[i]'hlt = x at *
      have IC := Lib.hid (en1_calls x wr)
      generalize hB : enB x = B at *
      obtain ⟨t, k, m, s⟩ := x
      simp only at e0 e1 e2 e3 IC
      clear hB
      cases B
      · have HZ := Lib.hid (HX.out rfl)
        clear HX HY
        go_wp2_with fail
        (with_reducible refine IC.out.mono ?_)
        rintro e w1 ⟨rfl, hm1⟩
        have HM1 := Lib.hid (HM.out.trans0 hm1)
        clear hm1
        go_wp2_with fail
        go_ret
        exact ⟨_, rfl, HM1.out, .inr ⟨by omega, HZ.out⟩⟩
      · have HZ := Lib.hid (HY.out rfl)
        clear HX HY
        go_wp2_with fail
        (with_reducible refine IC.out.mono ?_)
        rintro e w1 ⟨rfl, hm1⟩
        have HM1 := Lib.hid (HM.out.trans0 hm1)
        clear hm1
        go_wp2_with fail
        go_roundw
        case rel => exact ⟨i + 1, by omega, by go_num, HM1.out, HZ⟩
        case measure => simp [intOf]; omega
    · have hge : (l.length : Int) ≤ i := by omega
      have HZ := Lib.hid (all_good (p := enB) (l := l) (fun t ht => HJ.out t ht (by omega)))
      clear HJ
      go_wp2_with fail
      go_ret
      exact ⟨_, rfl, HM.out, .inl ⟨rfl, HZ.out⟩⟩
theorem encont_calls (v : Value) (l : List En) (w : World) (h : EnsV w v l) (hn : l.length ≤ 100000) :
    Calls Try.prog 73 #[v, .func (.func 74) #[] #[]] w fun e w' => e = .returned (.bool (!l.all enB)) ∧ Mod w w' [] := by
  have FC := Lib.hid (enfind_calls v l w h hn)
  clear h
  go_enter Try.func73, Try.ntmps73
  go_wp2_with fail
  (with_reducible refine FC.out.mono ?_)
  rintro e w1 ⟨r, rfl, hm, hr⟩
  have HM := Lib.hid hm
  clear hm
  rcases hr with ⟨rfl, ha⟩ | ⟨hr, ha⟩
  · have HA := Lib.hid ha
    clear ha
    go_wp2_with fail
    go_ret
    exact ⟨ret_bool (by rw [HA.out]; rfl), HM.out⟩
  · have HA := Lib.hid ha
    clear ha
    go_wp2_with fail
    go_ret
    exact ⟨ret_bool (by rw [HA.out]; simp [hr]), HM.out⟩
abbrev snV (i t m : Int) (x : ByteArray) : Value := .agg #[.int .i64 i, .int .i64 t, .int .i64 m, .string x]
set_option maxHeartbeats 4000000 in
theorem snap_calls (i t m : Int) (s : ByteArray) (w : World) : Calls Try.prog 71 #[snV i t m s] w fun e w' => e = .returned (.bool (snB i t m s)) ∧ Mod w w' [] := by
  have HB : Hid (snB i t m s = (([i, t].all ixB) && inB m 0 127 && decide (s.size ≤ 262144))) := Lib.hid (by unfold snB; simp)
  generalize snB i t m s = B at *
  have HM0 := Lib.hid ((Mod.refl w []).alloc (.cells #[.int .i64 i, .int .i64 t, .int .i64 m, .string s] 31))
  have hb := Blk.new w #[.int .i64 i, .int .i64 t, .int .i64 m, .string s] 31
  have HM1 := Lib.hid (HM0.out.alloc (.cells #[.int .i64 i, .int .i64 t] 3))
  have hi1 := ints_new (w.alloc (.cells #[.int .i64 i, .int .i64 t, .int .i64 m, .string s] 31)) [i, t]
  have XC := Lib.hid (index_calls _ _ _ hi1 (by simp))
  simp only [World.size_alloc, List.length_cons, List.length_nil, List.map_cons, List.map_nil, Nat.zero_add] at XC
  have IC := Lib.hid (fun w => in_calls m 0 127 w)
  have HB0 := Lib.hid (hb.alloc (.cells #[.int .i64 i, .int .i64 t] 3))
  clear hb hi1
  generalize [i, t].all ixB = A1 at *
  generalize inB m 0 127 = A2 at *
  cases A1
  · go_enter Try.func71, Try.ntmps71
    go_wp2_with fail
    (with_reducible refine XC.out.mono ?_)
    rintro e w1 ⟨rfl, hm1⟩
    have HM2 := Lib.hid (HM1.out.trans0 hm1)
    have HB1 := HB0.out.mod hm1 (by simp)
    have c2 := HB1.cell 2
    have c3 := HB1.cell 3
    clear hm1 HB1
    go_wp2_with fail
    go_ret
    exact ⟨ret_bool (by rw [HB.out]; simp), HM2.out⟩
  · cases A2
    · go_enter Try.func71, Try.ntmps71
      go_wp2_with fail
      (with_reducible refine XC.out.mono ?_)
      rintro e w1 ⟨rfl, hm1⟩
      have HM2 := Lib.hid (HM1.out.trans0 hm1)
      have HB1 := HB0.out.mod hm1 (by simp)
      have c2 := HB1.cell 2
      have c3 := HB1.cell 3
      clear hm1 HB1
      go_wp2_with fail
      (with_reducible refine (IC.out _).mono ?_)
      rintro e w2 ⟨rfl, rfl⟩
      go_wp2_with fail
      go_ret
      exact ⟨ret_bool (by rw [HB.out]; simp), HM2.out⟩
    · go_enter Try.func71, Try.ntmps71
      go_wp2_with fail
      (with_reducible refine XC.out.mono ?_)
      rintro e w1 ⟨rfl, hm1⟩
      have HM2 := Lib.hid (HM1.out.trans0 hm1)
      have HB1 := HB0.out.mod hm1 (by simp)
      have c2 := HB1.cell 2
      have c3 := HB1.cell 3
      clear hm1 HB1
      go_wp2_with fail
      (with_reducible refine (IC.out _).mono ?_)
      rintro e w2 ⟨rfl, rfl⟩
      go_wp2_with fail
      go_ret
      exact ⟨ret_bool (by rw [HB.out]; simp; omega), HM2.out⟩
end Go.Proofs.Ytgmenlfhkhdbdaa.Ra
