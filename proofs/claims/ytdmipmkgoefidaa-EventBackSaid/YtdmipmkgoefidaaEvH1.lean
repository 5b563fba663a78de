/- The contracts of the comparison of values: whole numbers and real ones. -/
import Derived.Test.YtdmipmkgoefidaaReal4
import Derived.Test.YtdmipmkgoefidaaFlT
import Derived.Test.YtdmipmkgoefidaaMem
import Derived.Test.YtdmipmkgoefidaaQuiet
namespace Go.Proofs.Ytdmipmkgoefidaa.EvH
open Go.RowKit
set_option linter.unusedSimpArgs false
set_option linter.unusedVariables false

def cmpI (x y : Int) : Int := if x < y then -1 else if x = y then 0 else 1
theorem cmp_cases (x y : Int) : (x < y ∧ cmpI x y = -1) ∨ (x = y ∧ cmpI x y = 0) ∨ (y < x ∧ cmpI x y = 1) := by
  unfold cmpI
  by_cases h : x < y
  · left; exact ⟨h, by rw [if_pos h]⟩
  · by_cases h2 : x = y
    · right; left; exact ⟨h2, by rw [if_neg h, if_pos h2]⟩
    · right; right; exact ⟨by omega, by rw [if_neg h, if_neg h2]⟩

theorem stands_calls (c : Int) (h1 : -1 ≤ c) (h2 : c ≤ 1) (w : World) : Calls Try.prog 55 #[.int .i64 c] w fun e w' => e = .returned (.int .i64 (2 + c)) ∧ w = w' := by
  go_enter Try.func55, Try.ntmps55
  go_wp2
  go_ret
  exact ⟨rfl, rfl⟩

theorem inan_calls (c : Int) (w : World) : Calls Try.prog 75 #[.int .i64 c] w fun e w' => e = .returned (.bool false) ∧ w = w' := by
  have hb : (c != c) = false := by simp
  go_enter Try.func75, Try.ntmps75
  go_wp2
  go_ret
  exact ⟨rfl, rfl⟩
theorem snan_calls (c : ByteArray) (w : World) : Calls Try.prog 74 #[.string c] w fun e w' => e = .returned (.bool false) ∧ w = w' := by
  have hb : (c.toList != c.toList) = false := by simp
  go_enter Try.func74, Try.ntmps74
  go_wp2
  go_ret
  exact ⟨rfl, rfl⟩
theorem fnan_calls (c : Nat) (w : World) : Calls Try.prog 82 #[.float .f64 c] w fun e w' => e = .returned (.bool (Fl.nanB c)) ∧ w = w' := by
  go_enter Try.func82, Try.ntmps82
  go_wp2
  go_ret
  exact ⟨rfl, rfl⟩

theorem icmp_calls (a b : Int) (w : World) : Calls Try.prog 57 #[.int .i64 a, .int .i64 b] w fun e w' => e = .returned (.int .i64 (cmpI a b)) ∧ w = w' := by
  rcases cmp_cases a b with ⟨h, e⟩ | ⟨h, e⟩ | ⟨h, e⟩
  all_goals
    rw [e]
    clear e
    try subst h
    go_enter Try.func57, Try.ntmps57
    go_wp2_with (go_at_call 75; refine (inan_calls _ _).mono ?_; rintro e w' ⟨rfl, rfl⟩)
    go_ret
    exact ⟨rfl, rfl⟩

def cmpF (a b : Nat) : Int := if Fl.ltB a b then -1 else if Fl.ltB b a then 1 else 0
theorem fcmp_calls (a b : Nat) (ha : Fl.nanB a = false) (hb : Fl.nanB b = false) (w : World) : Calls Try.prog 77 #[.float .f64 a, .float .f64 b] w fun e w' => e = .returned (.int .i64 (cmpF a b)) ∧ w = w' := by
  have na := fun w => fnan_calls a w
  have nb := fun w => fnan_calls b w
  rw [ha] at na
  rw [hb] at nb
  have NA := Lib.hid na
  have NB := Lib.hid nb
  unfold cmpF
  clear na nb ha hb
  cases h1 : Fl.ltB a b
  · cases h2 : Fl.ltB b a
    all_goals
      go_enter Try.func77, Try.ntmps77
      go_wp2_with fail
      refine (NA.out _).mono ?_
      rintro e w' ⟨rfl, rfl⟩
      go_wp2_with fail
      refine (NB.out _).mono ?_
      rintro e w' ⟨rfl, rfl⟩
      go_wp2_with fail
      go_ret
      exact ⟨rfl, rfl⟩
  · go_enter Try.func77, Try.ntmps77
    go_wp2_with fail
    refine (NA.out _).mono ?_
    rintro e w' ⟨rfl, rfl⟩
    go_wp2_with fail
    refine (NB.out _).mono ?_
    rintro e w' ⟨rfl, rfl⟩
    go_wp2_with fail
    go_ret
    exact ⟨rfl, rfl⟩

/-- How two texts stand. -/
def cmpS (a b : ByteArray) : Int := if Op.bytesLess a.toList b.toList then -1 else if (a.toList == b.toList) then 0 else 1
theorem scmp_calls (a b : ByteArray) (w : World) : Calls Try.prog 56 #[.string a, .string b] w fun e w' => e = .returned (.int .i64 (cmpS a b)) ∧ w = w' := by
  unfold cmpS
  cases h1 : Op.bytesLess a.toList b.toList
  · cases h2 : (a.toList == b.toList)
    all_goals
      go_enter Try.func56, Try.ntmps56
      go_wp2_with (go_at_call 74; refine (snan_calls _ _).mono ?_; rintro e w' ⟨rfl, rfl⟩)
      go_ret
      exact ⟨rfl, rfl⟩
  · go_enter Try.func56, Try.ntmps56
    go_wp2_with (go_at_call 74; refine (snan_calls _ _).mono ?_; rintro e w' ⟨rfl, rfl⟩)
    go_ret
    exact ⟨rfl, rfl⟩

theorem toInt_num (nm : String) (way : Ieee.Toward) (a m : Nat) (s : Bool) (e : Int) (h : FloatKind.f64.decode a = .number s m e) : Extern.MathFloor.toIntegral nm way #[.float .f64 a] = pure (.float .f64 (FloatKind.f64.encode ((Ieee.Datum.number s m e).integral way))) := by
  delta Extern.MathFloor.toIntegral
  show (Extern.MathFloor.toIntegral.match_1 _ _ _ _) = _
  rw [h]
theorem run_trunc0 (a : Nat) (w : World) : (callFunc 80 #[.float .f64 a]).run Try.prog w = (Extern.MathFloor.toIntegral "math.archTrunc" .zero #[.float .f64 a] >>= fun v => pure (.value v)).run Try.prog w := by kernel_rfl
theorem run_trunc (a : Nat) (w : World) (h : Fl.rung a < Fl.I) (hq : Fl.part a ≤ 9223372036854775808) : (callFunc 80 #[.float .f64 a]).run Try.prog w = .ok (.value (.float .f64 (Fl.truncB a))) w := by
  rw [run_trunc0]
  have e := Fl.trunc_word a h hq
  obtain ⟨m, i, hr, _⟩ := Fl.read_num a h
  rw [hr] at e
  rw [toInt_num _ _ a m (Fl.neg a) (Ieee.double.leastPlace + (i : Int)) hr]
  have he : FloatKind.f64.encode ((Ieee.Datum.number (Fl.neg a) m (Ieee.double.leastPlace + (i : Int))).integral .zero) = Fl.truncB a := e
  rw [he]
  rfl
end Go.Proofs.Ytdmipmkgoefidaa.EvH
