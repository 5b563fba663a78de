/- Reading an event: numbers and values. -/
import Derived.Test.YtdmipmkgoefidaaEvR
import Derived.Test.YtdmipmkgoefidaaRef5
namespace Go.Proofs.Ytdmipmkgoefidaa.Ev
open Go.RowKit Mem Bits EvH
set_option linter.unusedSimpArgs false
set_option linter.unusedVariables false
set_option maxRecDepth 100000

/-- A number that is not above another one; else -1. -/
def limI (n most : Nat) : Int := if n ≤ most then (n : Int) else -1
theorem limI_bd (n most : Nat) : -1 ≤ limI n most ∧ limI n most ≤ most := by unfold limI; split <;> omega

theorem number_calls (g : Nat) (s : ByteArray) (e0 : Int) (most : Nat) (hm : most ≤ 549755813888) (w : World) (hs : s.size ≤ 140737488355328) (hb : TapeAt w g s e0) :
    Calls Try.prog 42 #[.pointer (some ⟨g, 0, none⟩), .int .u64 most] w fun e w' => e = .returned (.int .i64 (limI (tN s e0) most)) ∧ Mod w w' [g] ∧ TapeAt w' g (tS s e0) (tE s e0) := by
  have NC := Lib.hid (Num_calls g s e0 w hs hb)
  have hm' : (most : Int) ≤ 549755813888 := by omega
  have HU : Hid (limI (tN s e0) most = if tN s e0 ≤ most then ((tN s e0 : Nat) : Int) else -1) := Lib.hid rfl
  generalize limI (tN s e0) most = R at *
  generalize tN s e0 = n at *
  by_cases h : n ≤ most
  · have HR : Hid (R = (n : Int)) := Lib.hid (by rw [HU.out, if_pos h])
    have h' : (n : Int) ≤ most := by omega
    clear h
    go_enter Try.func42, Try.ntmps42
    go_wp2_with fail
    refine (NC.out).mono ?_
    rintro e w1 ⟨rfl, hm1, hb1⟩
    have HM1 := Lib.hid hm1
    have HB1 := Lib.hid hb1
    clear hm1 hb1
    go_wp2_with fail
    go_ret
    exact ⟨by rw [HR.out]; rfl, HM1.out, HB1.out⟩
  · have HR : Hid (R = -1) := Lib.hid (by rw [HU.out, if_neg h])
    have h' : (most : Int) < n := by omega
    clear h
    go_enter Try.func42, Try.ntmps42
    go_wp2_with fail
    refine (NC.out).mono ?_
    rintro e w1 ⟨rfl, hm1, hb1⟩
    have HM1 := Lib.hid hm1
    have HB1 := Lib.hid hb1
    clear hm1 hb1
    go_wp2_with fail
    go_ret
    exact ⟨by rw [HR.out]; rfl, HM1.out, HB1.out⟩
theorem limited_calls (n most : Nat) (hm : most ≤ 549755813888) (w : World) :
    Calls Try.prog 48 #[.int .u64 n, .int .u64 most] w fun e w' => e = .returned (.int .i64 (limI n most)) ∧ w = w' := by
  have hm' : (most : Int) ≤ 549755813888 := by omega
  by_cases h : n ≤ most
  · have HR : Hid (limI n most = (n : Int)) := Lib.hid (by unfold limI; rw [if_pos h])
    have h' : (n : Int) ≤ most := by omega
    clear h
    go_enter Try.func48, Try.ntmps48
    go_wp2_with fail
    go_ret
    exact ⟨by rw [HR.out]; rfl, rfl⟩
  · have HR : Hid (limI n most = -1) := Lib.hid (by unfold limI; rw [if_neg h])
    have h' : (most : Int) < n := by omega
    clear h
    go_enter Try.func48, Try.ntmps48
    go_wp2_with fail
    go_ret
    exact ⟨by rw [HR.out]; rfl, rfl⟩

theorem Blk4g {w : World} {g : Nat} {a b c d : Value} {t : TypeId} (h : Blk w g #[a, b, c, d] t) : (w.cell? ⟨g, 0, none⟩ = some a ∧ w.cell? ⟨g, 1, none⟩ = some b ∧ w.cell? ⟨g, 2, none⟩ = some c ∧ w.cell? ⟨g, 3, none⟩ = some d) ∧ w.frozen? ⟨g, 0, none⟩ = false ∧ w.frozen? ⟨g, 1, none⟩ = false ∧ w.frozen? ⟨g, 2, none⟩ = false ∧ w.frozen? ⟨g, 3, none⟩ = false := ⟨Blk4 h, h.free 0, h.free 1, h.free 2, h.free 3⟩
/-- What is left of a tape, and its error. -/
abbrev Tp := ByteArray × Int
def tpN (t : Tp) : Tp := (tS t.1 t.2, tE t.1 t.2)
def tpT (t : Tp) (most : Int) : Tp := ((textR t.1 t.2 most).2.1, (textR t.1 t.2 most).2.2)
def tpR (t : Tp) : Tp := ((realR t.1 t.2).2.1, (realR t.1 t.2).2.2)
theorem tpT_size (t : Tp) (most : Int) : (tpT t most).1.size ≤ t.1.size := by
  unfold tpT textR
  repeat' split
  all_goals first | exact Nat.le_refl _ | (show ByteArray.size (ByteArray.extract _ _ _) ≤ _; rw [ByteArray.size_extract]; omega)
theorem tpN_size (t : Tp) : (tpN t).1.size ≤ t.1.size := tS_size _ _
theorem tpR_size (t : Tp) : (tpR t).1.size ≤ t.1.size := by
  unfold tpR realR
  repeat' split
  all_goals first | exact Nat.le_refl _ | (show ByteArray.size (ByteArray.extract _ _ _) ≤ _; rw [ByteArray.size_extract]; omega)
theorem textR_size (t : Tp) (most : Int) : (textR t.1 t.2 most).1.size ≤ t.1.size := by
  unfold textR
  repeat' split
  all_goals first | exact Nat.zero_le _ | (show ByteArray.size (ByteArray.extract _ _ _) ≤ _; rw [ByteArray.size_extract]; omega)

/-- A value that is read, and the tape behind it. -/
def valT (t : Tp) : Val × Tp :=
  if limI (tN t.1 t.2) 3 = 1 then (⟨1, unfoldI (tN (tpN t).1 (tpN t).2), 0, ⟨#[]⟩⟩, tpN (tpN t))
  else if limI (tN t.1 t.2) 3 = 2 then (⟨2, 0, (realR (tpN t).1 (tpN t).2).1, ⟨#[]⟩⟩, tpR (tpN t))
  else if limI (tN t.1 t.2) 3 = 3 then (⟨3, 0, 0, (textR (tpN t).1 (tpN t).2 64).1⟩, tpT (tpN t) 64)
  else (⟨limI (tN t.1 t.2) 3, 0, 0, ⟨#[]⟩⟩, tpN t)
def fldT (t : Tp) : Fld × Tp := (⟨(textR t.1 t.2 16).1, (valT (tpT t 16)).1⟩, (valT (tpT t 16)).2)
def goT (t : Tp) : Nat → List Fld × Tp
  | 0 => ([], t)
  | i + 1 => ((goT t i).1 ++ [(fldT (goT t i).2).1], (fldT (goT t i).2).2)
theorem valT_size (t : Tp) : (valT t).2.1.size ≤ t.1.size := by
  have h1 := tpN_size t
  have h2 := tpN_size (tpN t)
  have h3 := tpR_size (tpN t)
  have h4 := tpT_size (tpN t) 64
  unfold valT
  repeat' split
  all_goals simp only []
  all_goals omega
theorem fldT_size (t : Tp) : (fldT t).2.1.size ≤ t.1.size := by
  have := valT_size (tpT t 16)
  have := tpT_size t 16
  unfold fldT
  simp only []
  omega
theorem goT_size (t : Tp) (i : Nat) : (goT t i).2.1.size ≤ t.1.size := by
  induction i with
  | zero => exact Nat.le_refl _
  | succ i ih => have := fldT_size (goT t i).2; simp only [goT]; omega
theorem goT_len (t : Tp) (i : Nat) : (goT t i).1.length = i := by
  induction i with
  | zero => rfl
  | succ i ih => simp [goT, ih]
end Go.Proofs.Ytdmipmkgoefidaa.Ev
