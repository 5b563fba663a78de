/- The contracts of the comparison of two values. -/
import Derived.Test.YtdmipmkgoefidaaEvH2
namespace Go.Proofs.Ytdmipmkgoefidaa.EvH
open Go.RowKit Mem
set_option linter.unusedSimpArgs false
set_option linter.unusedVariables false
set_option maxRecDepth 100000

abbrev valV (k n : Int) (f : Nat) (s : ByteArray) : Value := .agg #[.int .i64 k, .int .i64 n, .float .f64 f, .string s]

/-- How two real numbers stand. -/
def realW (f g : Nat) : Int := if Fl.nanB f || Fl.nanB g then 0 else 2 + cmpI (Fl.SV f) (Fl.SV g)
def turnW (w : Int) : Int := if w = 0 then 0 else 4 - w
/-- How two values stand: 0 they cannot be compared, 1 below, 2 like, 3 above. -/
def stW (k n : Int) (f : Nat) (s : ByteArray) (k' n' : Int) (f' : Nat) (s' : ByteArray) : Int :=
  if k = 3 ∧ k' = 3 then 2 + cmpS s s' else if k = 1 ∧ k' = 1 then 2 + cmpI n n' else if k = 1 ∧ k' = 2 then mixW n f'
  else if k = 2 ∧ k' = 1 then turnW (mixW n' f) else if k = 2 ∧ k' = 2 then realW f f' else 0

theorem cmpS_bd (a b : ByteArray) : -1 ≤ cmpS a b ∧ cmpS a b ≤ 1 := by unfold cmpS; split <;> (try split) <;> decide
theorem mixW_bd (n : Int) (f : Nat) : 0 ≤ mixW n f ∧ mixW n f ≤ 3 := by
  have := cmpI_bd (Fl.NV n) (Fl.SV f)
  unfold mixW; split <;> omega
theorem realW_bd (f g : Nat) : 0 ≤ realW f g ∧ realW f g ≤ 3 := by
  have := cmpI_bd (Fl.SV f) (Fl.SV g)
  unfold realW; split <;> omega
theorem turnW_bd (w : Int) (h : 0 ≤ w) (h2 : w ≤ 3) : 0 ≤ turnW w ∧ (w ≠ 0 → turnW w ≤ 3) ∧ (w = 0 → turnW w = 0) := by
  unfold turnW; split <;> omega
theorem mixW_one (n : Int) (f : Nat) (h : mixW n f ≠ 0) : 1 ≤ mixW n f := by have := mixW_bd n f; omega
theorem stW_bd (k n : Int) (f : Nat) (s : ByteArray) (k' n' : Int) (f' : Nat) (s' : ByteArray) : 0 ≤ stW k n f s k' n' f' s' ∧ stW k n f s k' n' f' s' ≤ 3 := by
  have h1 := cmpS_bd s s'
  have h2 := cmpI_bd n n'
  have h3 := mixW_bd n f'
  have h4 := mixW_bd n' f
  have h5 := realW_bd f f'
  have h6 := turnW_bd (mixW n' f) h4.1 h4.2
  have h7 : turnW (mixW n' f) ≤ 3 := by
    by_cases h : mixW n' f = 0
    · have := h6.2.2 h; omega
    · exact h6.2.1 h
  unfold stW
  (repeat' split) <;> omega

theorem known_calls (k n : Int) (f : Nat) (s : ByteArray) (w : World) : Calls Try.prog 37 #[valV k n f s] w fun e w' => e = .returned (.bool (decide (1 ≤ k ∧ k ≤ 3))) ∧ Mod w w' [] := by
  by_cases h1 : 1 ≤ k
  · by_cases h2 : k ≤ 3
    · rw [decide_eq_true ⟨h1, h2⟩]
      go_enter Try.func37, Try.ntmps37
      go_wp2_with fail
      go_ret
      exact ⟨rfl, (Mod.refl _ _).alloc _⟩
    · rw [decide_eq_false (by omega)]
      have h3 : decide (k ≤ 3) = false := by simp; omega
      clear h2
      go_enter Try.func37, Try.ntmps37
      go_wp2_with fail
      go_ret
      exact ⟨rfl, (Mod.refl _ _).alloc _⟩
  · rw [decide_eq_false (by omega)]
    have h3 : k < 1 := by omega
    clear h1
    go_enter Try.func37, Try.ntmps37
    go_wp2_with fail
    go_ret
    exact ⟨rfl, (Mod.refl _ _).alloc _⟩

theorem realW_way (f g : Nat) : (Fl.ltB f g = true ∧ realW f g = 1) ∨ (Fl.ltB f g = false ∧ Fl.eqB f g = true ∧ realW f g = 2) ∨ (Fl.ltB f g = false ∧ Fl.eqB f g = false ∧ Fl.ltB g f = true ∧ realW f g = 3) ∨ (Fl.ltB f g = false ∧ Fl.eqB f g = false ∧ Fl.ltB g f = false ∧ realW f g = 0) := by
  unfold realW Fl.ltB Fl.eqB
  simp only [Fl.SV_lt, Fl.SV_eq]
  cases Fl.nanB f <;> cases Fl.nanB g <;> simp
  rcases cmp_cases (Fl.SV f) (Fl.SV g) with ⟨h, e⟩ | ⟨h, e⟩ | ⟨h, e⟩ <;> rw [e] <;> omega

set_option maxHeartbeats 1000000 in
theorem pair_calls (k n : Int) (f : Nat) (s : ByteArray) (k' n' : Int) (f' : Nat) (s' : ByteArray) (hk : 1 ≤ k ∧ k ≤ 3) (hk' : 1 ≤ k' ∧ k' ≤ 3) (b1 : -9223372036854775808 ≤ n) (b2 : n ≤ 9223372036854775807) (b3 : -9223372036854775808 ≤ n') (b4 : n' ≤ 9223372036854775807) (w : World) :
    Calls Try.prog 38 #[valV k n f s, valV k' n' f' s'] w fun e w' => e = .returned (.int .i64 (stW k n f s k' n' f' s')) ∧ Mod w w' [] := by
  have ka : k = 1 ∨ k = 2 ∨ k = 3 := by omega
  have kb : k' = 1 ∨ k' = 2 ∨ k' = 3 := by omega
  have IC := Lib.hid (fun w => icmp_calls n n' w)
  have SC := Lib.hid (fun w => scmp_calls s s' w)
  have MC := Lib.hid (fun w => mixed_calls n f' b1 b2 w)
  have NC := Lib.hid (fun w => mixed_calls n' f b3 b4 w)
  have h1 := cmpS_bd s s'
  have h2 := cmpI_bd n n'
  have h4 := mixW_bd n' f
  have hs : stW k n f s k' n' f' s' = if k = 3 ∧ k' = 3 then 2 + cmpS s s' else if k = 1 ∧ k' = 1 then 2 + cmpI n n' else if k = 1 ∧ k' = 2 then mixW n f'
    else if k = 2 ∧ k' = 1 then turnW (mixW n' f) else if k = 2 ∧ k' = 2 then realW f f' else 0 := rfl
  have HW := Lib.hid (realW_way f f')
  generalize stW k n f s k' n' f' s' = R at *
  generalize cmpS s s' = cs at *
  generalize cmpI n n' = ci at *
  generalize mixW n f' = m1 at *
  generalize mixW n' f = m2 at *
  generalize realW f f' = rw' at *
  clear hk hk' b1 b2 b3 b4
  rcases ka with rfl | rfl | rfl <;> rcases kb with rfl | rfl | rfl <;> simp only [reduceCtorEq, and_self, and_true, true_and, and_false, false_and, if_true, if_false, Int.reduceEq] at hs <;> subst hs
  · go_enter Try.func38, Try.ntmps38
    go_wp2_with fail
    refine (IC.out _).mono ?_
    rintro e w1 ⟨rfl, rfl⟩
    go_wp2_with fail
    refine (stands_calls ci h2.1 h2.2 _).mono ?_
    rintro e w1 ⟨rfl, rfl⟩
    go_wp2_with fail
    go_ret
    exact ⟨rfl, ((Mod.refl _ _).alloc _).alloc _⟩
  · go_enter Try.func38, Try.ntmps38
    go_wp2_with fail
    refine (MC.out _).mono ?_
    rintro e w1 ⟨rfl, rfl⟩
    go_wp2_with fail
    go_ret
    exact ⟨rfl, ((Mod.refl _ _).alloc _).alloc _⟩
  · go_enter Try.func38, Try.ntmps38
    go_wp2_with fail
    go_ret
    exact ⟨rfl, ((Mod.refl _ _).alloc _).alloc _⟩
  · by_cases hz : m2 = 0
    · have HZ : Hid (turnW m2 = 0) := Lib.hid (by unfold turnW; rw [if_pos hz])
      have hzb : (m2 == 0) = true := by rw [beq_iff_eq]; exact hz
      subst hz
      go_enter Try.func38, Try.ntmps38
      go_wp2_with fail
      refine (NC.out _).mono ?_
      rintro e w1 ⟨rfl, rfl⟩
      go_wp2_with fail
      go_ret
      exact ⟨by rw [HZ.out]; rfl, ((Mod.refl _ _).alloc _).alloc _⟩
    · have HZ : Hid (turnW m2 = 4 - m2) := Lib.hid (by unfold turnW; rw [if_neg hz])
      have hzb : (m2 == 0) = false := by rw [beq_eq_false_iff_ne]; exact hz
      clear hz
      go_enter Try.func38, Try.ntmps38
      go_wp2_with fail
      refine (NC.out _).mono ?_
      rintro e w1 ⟨rfl, rfl⟩
      go_wp2_with fail
      go_ret
      exact ⟨by rw [HZ.out]; rfl, ((Mod.refl _ _).alloc _).alloc _⟩
  · have e3 : Fl.holdsB 3 f f' = Fl.ltB f f' := rfl
    have e1 : Fl.holdsB 1 f f' = Fl.eqB f f' := rfl
    have e5 : Fl.holdsB 5 f f' = Fl.ltB f' f := rfl
    have H3 := fun w => holds_calls 3 f f' w
    have H1 := fun w => holds_calls 1 f f' w
    have H5 := fun w => holds_calls 5 f f' w
    rw [e3] at H3
    rw [e1] at H1
    rw [e5] at H5
    clear e1 e3 e5
    generalize Fl.ltB f f' = x3 at *
    generalize Fl.eqB f f' = x1 at *
    generalize Fl.ltB f' f = x5 at *
    have G3 := Lib.hid H3
    have G1 := Lib.hid H1
    have G5 := Lib.hid H5
    clear H1 H3 H5
    go_enter Try.func38, Try.ntmps38
    go_wp2_with fail
    go_loop [81] (fun v => ∃ k : Int, (k = 0 ∨ k = 1 ∨ k = 2 ∨ k = 3 ∨ k = 4) ∧ v = .int .i64 k ∧ Hid ((k = 2 → x3 = false) ∧ (k = 3 → x3 = false ∧ x1 = false) ∧ (k = 4 → x3 = false ∧ x1 = false ∧ x5 = false))) (fun v => (5 - intOf v).toNat)
    case atStart => exact ⟨0, .inl rfl, rfl, Lib.hid (by simp)⟩
    case round =>
      obtain ⟨k, hk, rfl, HK⟩ := hrel
      rcases hk with rfl | rfl | rfl | rfl | rfl
      · go_wp2_with fail
        go_round
        case rel => exact ⟨1, .inr (.inl rfl), rfl, Lib.hid (by simp)⟩
        case measure => simp [intOf]
      · cases x3
        · go_wp2_with fail
          refine (G3.out _).mono ?_
          rintro e w1 ⟨rfl, rfl⟩
          go_wp2_with fail
          go_round
          case rel => exact ⟨2, .inr (.inr (.inl rfl)), rfl, Lib.hid (by simp)⟩
          case measure => simp [intOf]
        · have HR : Hid (R = 1) := Lib.hid (by have := HW.out; simpa using this)
          go_wp2_with fail
          refine (G3.out _).mono ?_
          rintro e w1 ⟨rfl, rfl⟩
          go_wp2_with fail
          go_ret
          exact ⟨by rw [HR.out]; rfl, (((Mod.refl _ _).alloc _).alloc _).alloc _⟩
      · have hx := HK.out.1 rfl
        subst hx
        cases x1
        · go_wp2_with fail
          refine (G1.out _).mono ?_
          rintro e w1 ⟨rfl, rfl⟩
          go_wp2_with fail
          go_round
          case rel => exact ⟨3, .inr (.inr (.inr (.inl rfl))), rfl, Lib.hid (by simp)⟩
          case measure => simp [intOf]
        · have HR : Hid (R = 2) := Lib.hid (by have := HW.out; simpa using this)
          go_wp2_with fail
          refine (G1.out _).mono ?_
          rintro e w1 ⟨rfl, rfl⟩
          go_wp2_with fail
          go_ret
          exact ⟨by rw [HR.out]; rfl, (((Mod.refl _ _).alloc _).alloc _).alloc _⟩
      · obtain ⟨hx, hy⟩ := HK.out.2.1 rfl
        subst hx hy
        cases x5
        · go_wp2_with fail
          refine (G5.out _).mono ?_
          rintro e w1 ⟨rfl, rfl⟩
          go_wp2_with fail
          go_round
          case rel => exact ⟨4, .inr (.inr (.inr (.inr rfl))), rfl, Lib.hid (by simp)⟩
          case measure => simp [intOf]
        · have HR : Hid (R = 3) := Lib.hid (by have := HW.out; simpa using this)
          go_wp2_with fail
          refine (G5.out _).mono ?_
          rintro e w1 ⟨rfl, rfl⟩
          go_wp2_with fail
          go_ret
          exact ⟨by rw [HR.out]; rfl, (((Mod.refl _ _).alloc _).alloc _).alloc _⟩
      · obtain ⟨hx, hy, hz⟩ := HK.out.2.2 rfl
        subst hx hy hz
        have HR : Hid (R = 0) := Lib.hid (by have := HW.out; simpa using this)
        go_wp2_with fail
        go_ret
        exact ⟨by rw [HR.out]; rfl, (((Mod.refl _ _).alloc _).alloc _).alloc _⟩
  · go_enter Try.func38, Try.ntmps38
    go_wp2_with fail
    go_ret
    exact ⟨rfl, ((Mod.refl _ _).alloc _).alloc _⟩
  · go_enter Try.func38, Try.ntmps38
    go_wp2_with fail
    go_ret
    exact ⟨rfl, ((Mod.refl _ _).alloc _).alloc _⟩
  · go_enter Try.func38, Try.ntmps38
    go_wp2_with fail
    go_ret
    exact ⟨rfl, ((Mod.refl _ _).alloc _).alloc _⟩
  · go_enter Try.func38, Try.ntmps38
    go_wp2_with fail
    refine (SC.out _).mono ?_
    rintro e w1 ⟨rfl, rfl⟩
    go_wp2_with fail
    refine (stands_calls cs h1.1 h1.2 _).mono ?_
    rintro e w1 ⟨rfl, rfl⟩
    go_wp2_with fail
    go_ret
    exact ⟨rfl, ((Mod.refl _ _).alloc _).alloc _⟩
end Go.Proofs.Ytdmipmkgoefidaa.EvH
