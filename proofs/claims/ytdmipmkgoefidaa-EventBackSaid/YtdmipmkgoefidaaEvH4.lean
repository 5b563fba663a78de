/- The contracts of 'Holds' and of the reference's; of the chapter's 'stands'. -/
import Derived.Test.YtdmipmkgoefidaaEvH3
namespace Go.Proofs.Ytdmipmkgoefidaa.EvH
open Go.RowKit Mem
set_option linter.unusedSimpArgs false
set_option linter.unusedVariables false
set_option maxRecDepth 100000

/-- What a sign says of how two stand. -/
def signB (op w : Int) : Bool :=
  if op = 1 then w == 2 else if op = 2 then w != 2 else if op = 3 then w == 1 else if op = 4 then w == 1 || w == 2 else if op = 5 then w == 3 else if op = 6 then w == 3 || w == 2 else false
def holdsV (op k n : Int) (f : Nat) (s : ByteArray) (k' n' : Int) (f' : Nat) (s' : ByteArray) : Bool :=
  decide (1 ≤ k ∧ k ≤ 3) && (decide (1 ≤ k' ∧ k' ≤ 3) && signB op (stW k n f s k' n' f' s'))

theorem Blk4 {w : World} {g : Nat} {a b c d : Value} {t : TypeId} (h : Blk w g #[a, b, c, d] t) : w.cell? ⟨g, 0, none⟩ = some a ∧ w.cell? ⟨g, 1, none⟩ = some b ∧ w.cell? ⟨g, 2, none⟩ = some c ∧ w.cell? ⟨g, 3, none⟩ = some d := ⟨h.cell 0, h.cell 1, h.cell 2, h.cell 3⟩

set_option maxHeartbeats 2000000 in
theorem holdsV_calls (op k n : Int) (f : Nat) (s : ByteArray) (k' n' : Int) (f' : Nat) (s' : ByteArray) (b1 : -9223372036854775808 ≤ n) (b2 : n ≤ 9223372036854775807) (b3 : -9223372036854775808 ≤ n') (b4 : n' ≤ 9223372036854775807) (w : World) :
    Calls Try.prog 18 #[.int .i64 op, valV k n f s, valV k' n' f' s'] w fun e w' => e = .returned (.bool (holdsV op k n f s k' n' f' s')) ∧ Mod w w' [] := by
  have K1 := Lib.hid (fun w => known_calls k n f s w)
  have K2 := Lib.hid (fun w => known_calls k' n' f' s' w)
  unfold holdsV
  have hb0 := (Blk.new w #[.int .i64 k, .int .i64 n, .float .f64 f, .string s] 42).alloc (.cells #[.int .i64 k', .int .i64 n', .float .f64 f', .string s'] 42)
  have hb1 := Blk.new (w.alloc (.cells #[.int .i64 k, .int .i64 n, .float .f64 f, .string s] 42)) #[.int .i64 k', .int .i64 n', .float .f64 f', .string s'] 42
  rw [World.size_alloc] at hb1
  have HB0 := Lib.hid hb0
  have HB1 := Lib.hid hb1
  clear hb0 hb1
  by_cases hk : 1 ≤ k ∧ k ≤ 3
  case neg =>
    rw [decide_eq_false hk] at *
    clear hk
    go_enter Try.func18, Try.ntmps18
    go_wp2_with fail
    refine (K1.out _).mono ?_
    rintro e w1 ⟨rfl, hm1⟩
    go_wp2_with fail
    go_ret
    exact ⟨rfl, (((Mod.refl _ _).alloc _).alloc _).trans0 hm1⟩
  by_cases hk' : 1 ≤ k' ∧ k' ≤ 3
  case neg =>
    rw [decide_eq_false hk'] at *
    rw [decide_eq_true hk] at *
    clear hk hk'
    go_enter Try.func18, Try.ntmps18
    go_wp2_with fail
    refine (K1.out _).mono ?_
    rintro e w1 ⟨rfl, hm1⟩
    obtain ⟨c0, c1, c2, c3⟩ := Blk4 (HB1.out.mod hm1 (by simp))
    go_wp2_with fail
    refine (K2.out _).mono ?_
    rintro e w2 ⟨rfl, hm2⟩
    go_wp2_with fail
    go_ret
    exact ⟨rfl, ((((Mod.refl _ _).alloc _).alloc _).trans0 hm1).trans0 hm2⟩
  have P1 := Lib.hid (fun w => pair_calls k n f s k' n' f' s' hk hk' b1 b2 b3 b4 w)
  have hW := stW_bd k n f s k' n' f' s'
  generalize stW k n f s k' n' f' s' = W at *
  rw [decide_eq_true hk'] at *
  rw [decide_eq_true hk] at *
  rw [Bool.true_and, Bool.true_and]
  clear hk hk' b1 b2 b3 b4
  have hW' : W = 0 ∨ W = 1 ∨ W = 2 ∨ W = 3 := by omega
  clear hW
  have hop : op = 1 ∨ op = 2 ∨ op = 3 ∨ op = 4 ∨ op = 5 ∨ op = 6 ∨ (op ≠ 1 ∧ op ≠ 2 ∧ op ≠ 3 ∧ op ≠ 4 ∧ op ≠ 5 ∧ op ≠ 6) := by omega
  rcases hop with rfl | rfl | rfl | rfl | rfl | rfl | ⟨o1, o2, o3, o4, o5, o6⟩
  case inr.inr.inr.inr.inr.inr =>
    have h1 : (op == 1) = false := by rw [beq_eq_false_iff_ne]; exact o1
    have h2 : (op == 2) = false := by rw [beq_eq_false_iff_ne]; exact o2
    have h3 : (op == 3) = false := by rw [beq_eq_false_iff_ne]; exact o3
    have h4 : (op == 4) = false := by rw [beq_eq_false_iff_ne]; exact o4
    have h5 : (op == 5) = false := by rw [beq_eq_false_iff_ne]; exact o5
    have h6 : (op == 6) = false := by rw [beq_eq_false_iff_ne]; exact o6
    have hf : signB op W = false := by unfold signB; simp [o1, o2, o3, o4, o5, o6]
    rw [hf]
    clear hf o1 o2 o3 o4 o5 o6
    go_enter Try.func18, Try.ntmps18
    go_wp2_with fail
    refine (K1.out _).mono ?_
    rintro e w1 ⟨rfl, hm1⟩
    obtain ⟨c0, c1, c2, c3⟩ := Blk4 (HB1.out.mod hm1 (by simp))
    go_wp2_with fail
    refine (K2.out _).mono ?_
    rintro e w2 ⟨rfl, hm2⟩
    obtain ⟨d0, d1, d2, d3⟩ := Blk4 ((HB1.out.mod hm1 (by simp)).mod hm2 (by simp))
    obtain ⟨e0, e1, e2, e3⟩ := Blk4 ((HB0.out.mod hm1 (by simp)).mod hm2 (by simp))
    go_wp2_with fail
    refine (P1.out _).mono ?_
    rintro e w3 ⟨rfl, hm3⟩
    go_wp2_with fail
    go_ret
    exact ⟨rfl, (((((Mod.refl _ _).alloc _).alloc _).trans0 hm1).trans0 hm2).trans0 hm3⟩
  all_goals
    rcases hW' with rfl | rfl | rfl | rfl
  all_goals
    simp only [signB, Int.reduceEq, if_true, if_false, Int.reduceBEq, Int.reduceBNe, Bool.or_self, Bool.or_true, Bool.true_or, Bool.false_or, Bool.or_false]
    go_enter Try.func18, Try.ntmps18
    go_wp2_with fail
    refine (K1.out _).mono ?_
    rintro e w1 ⟨rfl, hm1⟩
    obtain ⟨c0, c1, c2, c3⟩ := Blk4 (HB1.out.mod hm1 (by simp))
    go_wp2_with fail
    refine (K2.out _).mono ?_
    rintro e w2 ⟨rfl, hm2⟩
    obtain ⟨d0, d1, d2, d3⟩ := Blk4 ((HB1.out.mod hm1 (by simp)).mod hm2 (by simp))
    obtain ⟨e0, e1, e2, e3⟩ := Blk4 ((HB0.out.mod hm1 (by simp)).mod hm2 (by simp))
    go_wp2_with fail
    refine (P1.out _).mono ?_
    rintro e w3 ⟨rfl, hm3⟩
    go_wp2_with fail
    go_ret
    exact ⟨rfl, (((((Mod.refl _ _).alloc _).alloc _).trans0 hm1).trans0 hm2).trans0 hm3⟩

/-- What the reference says of how two stand. -/
def refW (w : Int) : Int := if w = 0 then 2 else w - 2
end Go.Proofs.Ytdmipmkgoefidaa.EvH
