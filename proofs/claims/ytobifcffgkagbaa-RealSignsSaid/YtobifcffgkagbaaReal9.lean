/- The law on the signs of comparison. -/
import Derived.Test.YtobifcffgkagbaaReal8
namespace Go.Proofs.Ytobifcffgkagbaa
open Go.RowKit
set_option linter.unusedSimpArgs false
set_option linter.unusedVariables false

def cntH (a b : Nat) : Nat → Nat
  | 0 => 0
  | k + 1 => cntH a b k + (if Fl.holdsB ((k : Int) + 1) a b then 1 else 0)

theorem cntH_le (a b : Nat) : ∀ k, cntH a b k ≤ k
  | 0 => Nat.le_refl _
  | k + 1 => by have := cntH_le a b k; unfold cntH; split <;> omega

theorem signs_of (a b : Nat) : (Fl.nanB a || Fl.nanB b) = true ∧ Fl.eqB a b = false ∧ Fl.ltB a b = false ∧ Fl.ltB b a = false ∨ (Fl.nanB a = false ∧ Fl.nanB b = false) ∧ ((Fl.eqB a b = true ∧ Fl.ltB a b = false ∧ Fl.ltB b a = false) ∨ (Fl.eqB a b = false ∧ Fl.ltB a b = true ∧ Fl.ltB b a = false) ∨ (Fl.eqB a b = false ∧ Fl.ltB a b = false ∧ Fl.ltB b a = true)) := by
  unfold Fl.eqB Fl.ltB
  cases Fl.nanB a <;> cases Fl.nanB b <;> simp
  omega

set_option maxHeartbeats 4000000 in
theorem realSigns_calls (a : Nat) (ha' : (Lit.float .f64 a).wf = true) (b : Nat) (hb' : (Lit.float .f64 b).wf = true) (w : World) :
    Calls Try.prog 6 #[.float .f64 a, .float .f64 b] w fun e w' => e = .returned (.bool true) ∧ Below w.heap.size w w' := by
  have hs := signs_of a b
  have hle := cntH_le a b
  have hv : (Fl.holdsB 1 a b = Fl.eqB a b ∧ Fl.holdsB 2 a b = !Fl.eqB a b ∧ Fl.holdsB 3 a b = Fl.ltB a b) ∧ Fl.holdsB 4 a b = (Fl.ltB a b || Fl.eqB a b) ∧ Fl.holdsB 5 a b = Fl.ltB b a ∧ Fl.holdsB 6 a b = (Fl.ltB b a || Fl.eqB a b) := by
    unfold Fl.holdsB; simp
  have hv' : Fl.holdsB 5 b a = Fl.ltB a b := by unfold Fl.holdsB; simp
  obtain ⟨⟨h1, h2, h3⟩, h4, h5, h6⟩ := hv
  have hc : cntH a b 6 = (if Fl.holdsB 1 a b then 1 else 0) + (if Fl.holdsB 2 a b then 1 else 0) + (if Fl.holdsB 3 a b then 1 else 0) + (if Fl.holdsB 4 a b then 1 else 0) + (if Fl.holdsB 5 a b then 1 else 0) + (if Fl.holdsB 6 a b then 1 else 0) := by
    simp [cntH]
  have hstep : ∀ k, cntH a b (k + 1) = cntH a b k + (if Fl.holdsB ((k : Int) + 1) a b then 1 else 0) := fun k => rfl
  have HSTEP := Lib.hid hstep
  have HLE := Lib.hid hle
  clear hstep hle
  have main : ∀ (e l g : Bool), Fl.eqB a b = e → Fl.ltB a b = l → Fl.ltB b a = g → ((Fl.nanB a || Fl.nanB b) = true ∧ e = false ∧ l = false ∧ g = false ∨ (Fl.nanB a = false ∧ Fl.nanB b = false) ∧ (e = true ∧ l = false ∧ g = false ∨ e = false ∧ l = true ∧ g = false ∨ e = false ∧ l = false ∧ g = true)) →
      Calls Try.prog 6 #[.float .f64 a, .float .f64 b] w fun e w' => e = .returned (.bool true) ∧ Below w.heap.size w w' := by
    intro e l g he hl hg hs
    rw [he] at h1 h2 h4 h6
    rw [hl] at h3 h4 hv'
    rw [hg] at h5 h6
    rw [h1, h2, h3, h4, h5, h6] at hc
    have hn : ∃ x y, Fl.nanB a = x ∧ Fl.nanB b = y := ⟨_, _, rfl, rfl⟩
    obtain ⟨x, y, hx, hy⟩ := hn
    rw [hx, hy] at hs
    clear he hl hg
    cases e <;> cases l <;> cases g <;> cases x <;> cases y <;> first | (exfalso; simp at hs; done) | skip
    all_goals
      clear hs
      simp only [if_true, if_false, Bool.false_eq_true, Bool.or_self, Bool.or_true, Bool.or_false, Bool.true_or, Bool.not_true, Bool.not_false, Nat.add_zero, Nat.zero_add, Nat.reduceAdd] at hc h1 h2 h3 h4 h5 h6
      have HC := Lib.hid hc
      clear hc
      go_enter Try.func6, Try.ntmps6
      go_wp2_with fail
      go_loop [5, 6] (fun n i => ∃ k : Nat, k ≤ 6 ∧ i = .int .i64 ((k : Int) + 1) ∧ n = .int .i64 (cntH a b k : Nat)) (fun _ i => 8 - (intOf i).toNat)
      case atStart => exact ⟨0, by omega, rfl, rfl⟩
      case round =>
        obtain ⟨k, hk, rfl, rfl⟩ := hrel
        have hck := HLE.out k
        by_cases hlt : k < 6
        · have hs := HSTEP.out k
          cases hb : Fl.holdsB ((k : Int) + 1) a b
          · have hs' : Hid (cntH a b (k + 1) = cntH a b k) := Lib.hid (by rw [hs, hb]; rfl)
            clear hs
            go_wp2_with (go_at_call 16; refine (holds_calls _ _ _ _).mono ?_; rintro e w' ⟨rfl, rfl⟩)
            go_round
            case rel => exact ⟨k + 1, by omega, by go_num, by rw [hs'.out]⟩
            case measure => simp [intOf]; omega
          · have hs' : Hid (cntH a b (k + 1) = cntH a b k + 1) := Lib.hid (by rw [hs, hb]; rfl)
            clear hs
            go_wp2_with (go_at_call 16; refine (holds_calls _ _ _ _).mono ?_; rintro e w' ⟨rfl, rfl⟩)
            go_round
            case rel => exact ⟨k + 1, by omega, by go_num, by rw [hs'.out]; go_num⟩
            case measure => simp [intOf]; omega
        · obtain rfl : k = 6 := by omega
          rw [HC.out]
          clear hck hlt
          go_wp2_with (first | (go_at_call 16; refine (holds_calls _ _ _ _).mono ?_; rintro e w' ⟨rfl, rfl⟩) | (go_at_call 15; refine (awake_calls _).mono ?_; rintro e w' ⟨rfl, rfl⟩))
          go_ret
          exact ⟨ret_bool (by simp), Below.refl _ _⟩
  exact main _ _ _ rfl rfl rfl hs
end Go.Proofs.Ytobifcffgkagbaa
