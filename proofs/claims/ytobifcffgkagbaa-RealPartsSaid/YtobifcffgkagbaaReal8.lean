/- The laws of chapter 3 on order, wholes and quotients. -/
import Derived.Test.YtobifcffgkagbaaReal7
namespace Go.Proofs.Ytobifcffgkagbaa
open Go.RowKit
set_option linter.unusedSimpArgs false
set_option linter.unusedVariables false

theorem realRanks_calls (a : Nat) (ha' : (Lit.float .f64 a).wf = true) (b : Nat) (hb' : (Lit.float .f64 b).wf = true) (w : World) :
    Calls Try.prog 7 #[.float .f64 a, .float .f64 b] w fun e w' => e = .returned (.bool true) ∧ Below w.heap.size w w' := by
  have ha := wf_f64 ha'
  have hb := wf_f64 hb'
  go_enter Try.func7, Try.ntmps7
  go_wp2_with (first | (go_at_call 15; refine (awake_calls _).mono ?_; rintro e w' ⟨rfl, rfl⟩) | (go_at_call 25; refine (rank_calls _ (by assumption) _).mono ?_; rintro e w' ⟨rfl, rfl⟩) | (go_at_call 24; refine (refrank_calls _ (by assumption) _).mono ?_; rintro e w' ⟨rfl, rfl⟩) | (go_at_call 26; refine (less_calls _ _ (by assumption) (by assumption) _).mono ?_; rintro e w' ⟨rfl, rfl⟩) | (go_at_call 27; refine (same_calls _ _ (by assumption) (by assumption) _).mono ?_; rintro e w' ⟨rfl, rfl⟩))
  all_goals
    go_ret
    exact ⟨ret_bool (by simp), Below.refl _ _⟩

theorem realWholes_calls (n : Int) (hn : (Lit.int .i64 n).wf = true) (w : World) :
    Calls Try.prog 4 #[.int .i64 n] w fun e w' => e = .returned (.bool true) ∧ Below w.heap.size w w' := by
  obtain ⟨h1, h2⟩ := wf_i64 hn
  have c1 := fun w => whole_calls n h1 h2 w
  have c2 := fun w => refwhole_calls n h1 h2 w
  generalize Fl.wholeBits n = a at *
  generalize Fl.exactB n.natAbs = x at *
  have C1 := Lib.hid c1
  have C2 := Lib.hid c2
  clear c1 c2
  go_enter Try.func4, Try.ntmps4
  go_wp2_with (first | (go_at_call 15; refine (awake_calls _).mono ?_; rintro e w' ⟨rfl, rfl⟩) | (go_at_call 18; refine (C1.out _).mono ?_; rintro e w' ⟨rfl, rfl⟩) | (go_at_call 19; refine (C2.out _).mono ?_; rintro e w' ⟨rfl, rfl⟩))
  all_goals
    go_ret
    exact ⟨ret_bool (by simp), Below.refl _ _⟩

theorem below_drewN (w : World) (k : Nat) : Below w.heap.size w (w.drewN k) := by
  induction k with
  | zero => exact Below.refl _ _
  | succ k ih => exact ih.drew

theorem realParts_calls (p : Int) (hp : (Lit.int .i64 p).wf = true) (q : Int) (hq : (Lit.int .i64 q).wf = true) (w : World) :
    Calls Try.prog 5 #[.int .i64 p, .int .i64 q] w fun e w' => e = .returned (.bool true) ∧ Below w.heap.size w w' := by
  obtain ⟨p1, p2⟩ := wf_i64 hp
  obtain ⟨q1, q2⟩ := wf_i64 hq
  have c2 := fun w => refpart_calls p q p1 p2 q1 q2 w
  by_cases h : p = 0 ∧ q = 0
  · obtain ⟨rfl, rfl⟩ := h
    rw [show refPart 0 0 = 9221120237041090561 from rfl] at c2
    have C2 := Lib.hid c2
    have hn : Fl.nanB 9221120237041090561 = true := by decide +kernel
    clear c2
    go_enter Try.func5, Try.ntmps5
    go_wp2_with (first | (go_at_call 15; refine (awake_calls _).mono ?_; rintro e w' ⟨rfl, rfl⟩) | (go_at_call 21; refine (part0_calls _).mono ?_; rintro e w' ⟨f, hf, rfl, rfl⟩) | (go_at_call 22; refine (C2.out _).mono ?_; rintro e w' ⟨rfl, k, rfl⟩) | (go_at_call 23; refine (nan_calls 9221120237041090561 _).mono ?_; rintro e w' ⟨rfl, rfl⟩))
    all_goals
      go_ret
      refine ⟨ret_bool (by simp), ?_⟩
      exact below_drewN w (1 + k)
  · have hpq : p ≠ 0 ∨ q ≠ 0 := by omega
    have c1 := fun w => part_calls p q p1 p2 q1 q2 hpq w
    have hn := Fl.part_notNan p q p1 p2 q1 q2
    rw [show refPart p q = Fl.partBits p q by unfold refPart; rw [if_neg h]] at c2
    generalize Fl.partBits p q = a at *
    have C1 := Lib.hid c1
    have C2 := Lib.hid c2
    clear c1 c2 h hpq
    go_enter Try.func5, Try.ntmps5
    go_wp2_with (first | (go_at_call 15; refine (awake_calls _).mono ?_; rintro e w' ⟨rfl, rfl⟩) | (go_at_call 21; refine (C1.out _).mono ?_; rintro e w' ⟨rfl, rfl⟩) | (go_at_call 22; refine (C2.out _).mono ?_; rintro e w' ⟨rfl, k, rfl⟩))
    all_goals
      go_ret
      refine ⟨ret_bool (by simp), ?_⟩
      exact below_drewN w k

theorem rank_order (a b c : Nat) (ha : a < 18446744073709551616) (hb : b < 18446744073709551616) (na : Fl.nanB a = false) (nb : Fl.nanB b = false) (hne : Fl.eqB a b = false) :
    decide (Fl.rankB a < Fl.rankB b) = Fl.ltB a b := by
  unfold Fl.eqB at hne
  unfold Fl.ltB
  rw [na, nb] at hne ⊢
  simp at hne
  simp only [Bool.not_false, Bool.true_and]
  rw [decide_eq_decide]
  constructor
  · intro h
    rcases Int.lt_trichotomy (Fl.key a) (Fl.key b) with g | g | g
    · exact g
    · exact absurd g hne
    · have := Fl.rank_lt_of b a hb ha nb na g; omega
  · exact Fl.rank_lt_of a b ha hb na nb

theorem eqB_nan (a b : Nat) (h : Fl.nanB a = true ∨ Fl.nanB b = true) : Fl.eqB a b = false ∧ Fl.ltB a b = false := by
  unfold Fl.eqB Fl.ltB
  rcases h with h | h <;> rw [h] <;> simp
theorem eqB_self (a : Nat) : Fl.eqB a a = !Fl.nanB a := by
  unfold Fl.eqB; simp

theorem rank_eq_key (a b : Nat) (ha : a < 18446744073709551616) (hb : b < 18446744073709551616) (na : Fl.nanB a = false) (nb : Fl.nanB b = false) (h : Fl.rankB a = Fl.rankB b) : Fl.eqB a b = true := by
  obtain rfl := Fl.rank_same_key a b ha hb na nb h
  rw [eqB_self, na]; rfl

/-- What the ranks of three words, and their comparisons, can be together. -/
def okB (xab xba xs xbc xac na nb e l : Bool) : Bool :=
  ((xab && !xba && !xs) || (!xab && xba && !xs) || (!xab && !xba && xs)) && (!(xab && xbc) || xac) && (!(na || nb) || (!e && !l)) && (na || nb || e || (xab == l)) && (!na || !xab) && (na || nb || !xs || e) && (!(na && !nb) || !xs) && (!(!na && nb) || !xs)

theorem ok_of (a b c : Nat) (ha : a < 18446744073709551616) (hb : b < 18446744073709551616) (hc : c < 18446744073709551616) :
    okB (decide (Fl.rankB a < Fl.rankB b)) (decide (Fl.rankB b < Fl.rankB a)) (Fl.rankB a == Fl.rankB b) (decide (Fl.rankB b < Fl.rankB c)) (decide (Fl.rankB a < Fl.rankB c)) (Fl.nanB a) (Fl.nanB b) (Fl.eqB a b) (Fl.ltB a b) = true := by
  have k1 : Fl.nanB a = false → Fl.nanB b = false → Fl.eqB a b = false → decide (Fl.rankB a < Fl.rankB b) = Fl.ltB a b := fun x y z => rank_order a b c ha hb x y z
  have k2 : Fl.nanB a = true → decide (Fl.rankB a < Fl.rankB b) = false := by
    intro h; have := Fl.rankB_bd b hb; rw [Fl.rank_nan a h, decide_eq_false_iff_not]; omega
  have k3 : Fl.nanB a = false → Fl.nanB b = false → (Fl.rankB a == Fl.rankB b) = true → Fl.eqB a b = true := fun x y z => rank_eq_key a b ha hb x y (beq_iff_eq.1 z)
  have k4 : Fl.nanB a = true → Fl.nanB b = false → (Fl.rankB a == Fl.rankB b) = false := by
    intro x y; have := Fl.rank_max b hb y; rw [Fl.rank_nan a x, beq_eq_false_iff_ne]; omega
  have k5 : Fl.nanB a = false → Fl.nanB b = true → (Fl.rankB a == Fl.rankB b) = false := by
    intro x y; have := Fl.rank_max a ha x; rw [Fl.rank_nan b y, beq_eq_false_iff_ne]; omega
  have k6 : (decide (Fl.rankB a < Fl.rankB b) = true ∧ decide (Fl.rankB b < Fl.rankB a) = false ∧ (Fl.rankB a == Fl.rankB b) = false) ∨ (decide (Fl.rankB a < Fl.rankB b) = false ∧ decide (Fl.rankB b < Fl.rankB a) = true ∧ (Fl.rankB a == Fl.rankB b) = false) ∨ (decide (Fl.rankB a < Fl.rankB b) = false ∧ decide (Fl.rankB b < Fl.rankB a) = false ∧ (Fl.rankB a == Fl.rankB b) = true) := by
    rcases Int.lt_trichotomy (Fl.rankB a) (Fl.rankB b) with h | h | h
    · exact .inl ⟨by simp [h], by simp; omega, by simp; omega⟩
    · exact .inr (.inr ⟨by simp; omega, by simp; omega, by simp [h]⟩)
    · exact .inr (.inl ⟨by simp; omega, by simp [h], by simp; omega⟩)
  have k7 : decide (Fl.rankB a < Fl.rankB b) = true → decide (Fl.rankB b < Fl.rankB c) = true → decide (Fl.rankB a < Fl.rankB c) = true := by
    intro x y; rw [decide_eq_true_iff] at *; omega
  have k8 := eqB_nan a b
  generalize decide (Fl.rankB a < Fl.rankB b) = xab at *
  generalize decide (Fl.rankB b < Fl.rankB a) = xba at *
  generalize decide (Fl.rankB b < Fl.rankB c) = xbc at *
  generalize decide (Fl.rankB a < Fl.rankB c) = xac at *
  generalize (Fl.rankB a == Fl.rankB b) = xs at *
  generalize Fl.nanB a = na at *
  generalize Fl.nanB b = nb at *
  generalize Fl.eqB a b = e at *
  generalize Fl.ltB a b = l at *
  clear ha hb hc
  cases na <;> cases nb <;> cases e <;> cases l <;> cases xab <;> cases xba <;> cases xs <;> cases xbc <;> cases xac <;> first | rfl | (exfalso; simp at k1 k2 k3 k4 k5 k6 k7 k8)

set_option maxHeartbeats 8000000 in
theorem realOrder_calls (a : Nat) (ha' : (Lit.float .f64 a).wf = true) (b : Nat) (hb' : (Lit.float .f64 b).wf = true) (c : Nat) (hc' : (Lit.float .f64 c).wf = true) (w : World) :
    Calls Try.prog 8 #[.float .f64 a, .float .f64 b, .float .f64 c] w fun e w' => e = .returned (.bool true) ∧ Below w.heap.size w w' := by
  have ha := wf_f64 ha'
  have hb := wf_f64 hb'
  have hc := wf_f64 hc'
  have lab := fun w => less_calls a b ha hb w
  have lba := fun w => less_calls b a hb ha w
  have lbc := fun w => less_calls b c hb hc w
  have lac := fun w => less_calls a c ha hc w
  have sab := fun w => same_calls a b ha hb w
  have eaa := eqB_self a
  have ebb := eqB_self b
  have ene := order_is_ne a b
  have hok := ok_of a b c ha hb hc
  generalize decide (Fl.rankB a < Fl.rankB b) = xab at *
  generalize decide (Fl.rankB b < Fl.rankB a) = xba at *
  generalize decide (Fl.rankB b < Fl.rankB c) = xbc at *
  generalize decide (Fl.rankB a < Fl.rankB c) = xac at *
  generalize (Fl.rankB a == Fl.rankB b) = xs at *
  have LAB := Lib.hid lab
  have LBA := Lib.hid lba
  have LBC := Lib.hid lbc
  have LAC := Lib.hid lac
  have SAB := Lib.hid sab
  clear lab lba lbc lac sab ha hb hc ha' hb' hc'
  cases na : Fl.nanB a <;> cases nb : Fl.nanB b <;> cases e : Fl.eqB a b <;> cases l : Fl.ltB a b <;> rw [na, nb, e, l] at hok <;> cases xab <;> cases xba <;> cases xs <;> cases xbc <;> cases xac <;> first | (exact absurd hok (by decide)) | skip
  all_goals
    clear hok
    rw [na] at eaa
    rw [nb] at ebb
    rw [e] at ene
    simp only [Bool.not_true, Bool.not_false] at eaa ebb ene
    go_enter Try.func8, Try.ntmps8
    go_wp2_with (first | (go_at_call 15; refine (awake_calls _).mono ?_; rintro e w' ⟨rfl, rfl⟩) | (go_at_call 26; (first | (with_reducible refine (LAB.out _).mono ?_) | (with_reducible refine (LBA.out _).mono ?_) | (with_reducible refine (LBC.out _).mono ?_) | (with_reducible refine (LAC.out _).mono ?_)); rintro e w' ⟨rfl, rfl⟩) | (go_at_call 27; refine (SAB.out _).mono ?_; rintro e w' ⟨rfl, rfl⟩))
    go_ret
    exact ⟨ret_bool (by simp), Below.refl _ _⟩
end Go.Proofs.Ytobifcffgkagbaa
