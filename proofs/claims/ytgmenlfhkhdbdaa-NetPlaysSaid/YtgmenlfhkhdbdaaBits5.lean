/- The contracts of a tape's methods. -/
import Derived.Test.YtgmenlfhkhdbdaaBits4
import Derived.Deep.QuietTactic
import Derived.BigQuiet
namespace Go.Proofs.Ytgmenlfhkhdbdaa.Bits
open Go.RowKit Mem
set_option linter.unusedSimpArgs false
set_option linter.unusedVariables false
set_option maxRecDepth 100000

def TapeAt (w : World) (g : Nat) (s : ByteArray) (e : Int) : Prop := Blk w g #[.string s, .int .i64 e] 188

theorem at_calls (s : ByteArray) (w : World) :
    Calls Try.prog 82 #[.string s] w fun e w' => e = .returned (.pointer (some ⟨w.heap.size, 0, none⟩)) ∧ Mod w w' [] ∧ TapeAt w' w.heap.size s 0 := by
  go_enter Try.func82, Try.ntmps82
  go_wp2
  go_ret
  exact ⟨rfl, (Mod.refl _ _).alloc _, Blk.new _ _ _⟩

theorem stuck_calls (g : Nat) (s : ByteArray) (e0 : Int) (w : World) (hb : TapeAt w g s e0) :
    Calls Try.prog 123 #[.pointer (some ⟨g, 0, none⟩)] w fun e w' => e = .returned (.bool (e0 != 0)) ∧ w = w' := by
  have hc1 : w.cell? ⟨g, 1, none⟩ = some (.int .i64 e0) := Blk.cell hb 1
  go_enter Try.func123, Try.ntmps123
  go_wp2
  go_ret
  exact ⟨rfl, rfl⟩
theorem stuck_nil (w : World) :
    Calls Try.prog 123 #[.pointer none] w fun e w' => e = .returned (.bool true) ∧ w = w' := by
  go_enter Try.func123, Try.ntmps123
  go_wp2
  go_ret
  exact ⟨rfl, rfl⟩
theorem fail_calls (g : Nat) (s : ByteArray) (e0 e1 : Int) (w : World) (hb : TapeAt w g s e0) :
    Calls Try.prog 124 #[.pointer (some ⟨g, 0, none⟩), .int .i64 e1] w fun e w' => e = .returned (.tuple #[]) ∧ Mod w w' [g] ∧ TapeAt w' g s e1 := by
  have hc1 : w.cell? ⟨g, 1, none⟩ = some (.int .i64 e0) := Blk.cell hb 1
  have hf1 := Blk.free hb 1
  go_enter Try.func124, Try.ntmps124
  go_wp2
  go_end0
  exact ⟨rfl, (Mod.refl _ _).setCell (by simp) _, Blk.set hb 1 _⟩

def tN (s : ByteArray) (e : Int) : Nat := if e = 0 then (Bt.numD s).1 else 0
def tS (s : ByteArray) (e : Int) : ByteArray := if e = 0 then s.extract (Bt.numD s).2.1 s.size else s
def tE (s : ByteArray) (e : Int) : Int := if e = 0 then (Bt.numD s).2.2 else e

theorem tN_lt (s : ByteArray) (e : Int) : tN s e < 18446744073709551616 := by
  unfold tN; split
  · exact (Bt.numD_facts s).1
  · omega
theorem tS_size (s : ByteArray) (e : Int) : (tS s e).size ≤ s.size := by
  unfold tS; split
  · rw [ByteArray.size_extract]; omega
  · omega

theorem Num_calls (g : Nat) (s : ByteArray) (e0 : Int) (w : World) (hs : s.size ≤ 9007199254740992) (hb : TapeAt w g s e0) :
    Calls Try.prog 122 #[.pointer (some ⟨g, 0, none⟩)] w fun e w' => e = .returned (.int .u64 (tN s e0)) ∧ Mod w w' [g] ∧ TapeAt w' g (tS s e0) (tE s e0) := by
  by_cases h0 : e0 = 0
  · subst h0
    have hD := Bt.numD_facts s
    have nc := tnum_calls g s 0 w hs hb
    have HN := Lib.hid nc
    have e1 : tN s 0 = (Bt.numD s).1 := by unfold tN; rw [if_pos rfl]
    have e2 : tS s 0 = s.extract (Bt.numD s).2.1 s.size := by unfold tS; rw [if_pos rfl]
    have e3 : tE s 0 = (Bt.numD s).2.2 := by unfold tE; rw [if_pos rfl]
    rw [e1, e2, e3]
    clear e1 e2 e3 nc
    generalize Bt.numD s = D at *
    obtain ⟨n, k, e⟩ := D
    simp only at hD HN ⊢
    obtain ⟨hd1, hd2, hd3, _⟩ := hD
    have hk : (k : Int) ≤ s.size := by omega
    go_enter Try.func122, Try.ntmps122
    go_wp2_with fail
    refine (stuck_calls g s 0 _ hb).mono ?_
    rintro e w' ⟨rfl, rfl⟩
    go_wp2_with fail
    refine (HN.out).mono ?_
    rintro e w1 ⟨rfl, hm1⟩
    have hb1 : TapeAt w1 g s 0 := Blk.mod hb hm1 (by simp)
    go_wp2_with fail
    refine (fail_calls g s 0 _ _ hb1).mono ?_
    rintro e w2 ⟨rfl, hm2, hb2⟩
    have hc0 : w2.cell? ⟨g, 0, none⟩ = some (.string s) := Blk.cell hb2 0
    have hf0 := Blk.free hb2 0
    have hm12 : Mod w w2 [g] := (hm1.weak0).trans hm2 (by simp)
    have HM := Lib.hid hm12
    have HB := Lib.hid hb2
    clear hm1 hm2 hm12 hb1
    go_wp2
    go_ret
    refine ⟨rfl, HM.out.setCell (by simp) _, ?_⟩
    exact Blk.set HB.out 0 _
  · have hne : (e0 != 0) = true := by rw [bne_iff_ne]; exact h0
    have e1 : tN s e0 = 0 := by unfold tN; rw [if_neg h0]
    have e2 : tS s e0 = s := by unfold tS; rw [if_neg h0]
    have e3 : tE s e0 = e0 := by unfold tE; rw [if_neg h0]
    rw [e1, e2, e3]
    clear e1 e2 e3 h0
    go_enter Try.func122, Try.ntmps122
    go_wp2_with fail
    refine (stuck_calls g s e0 _ hb).mono ?_
    rintro e w' ⟨rfl, rfl⟩
    rw [hne]
    go_wp2_with fail
    go_ret
    exact ⟨rfl, Mod.refl _ _, hb⟩

theorem Num_nil (w : World) : Calls Try.prog 122 #[.pointer none] w fun e w' => e = .returned (.int .u64 0) ∧ w = w' := by
  go_enter Try.func122, Try.ntmps122
  go_wp2_with (go_at_call 123; refine (stuck_nil _).mono ?_; rintro e w' ⟨rfl, rfl⟩)
  go_ret
  exact ⟨rfl, rfl⟩
theorem Err_calls (g : Nat) (s : ByteArray) (e0 : Int) (w : World) (hb : TapeAt w g s e0) :
    Calls Try.prog 126 #[.pointer (some ⟨g, 0, none⟩)] w fun e w' => e = .returned (.int .i64 e0) ∧ w = w' := by
  have hc1 : w.cell? ⟨g, 1, none⟩ = some (.int .i64 e0) := Blk.cell hb 1
  go_enter Try.func126, Try.ntmps126
  go_wp2
  go_ret
  exact ⟨rfl, rfl⟩
theorem Err_nil (w : World) : Calls Try.prog 126 #[.pointer none] w fun e w' => e = .returned (.int .i64 1) ∧ w = w' := by
  go_enter Try.func126, Try.ntmps126
  go_wp2
  go_ret
  exact ⟨rfl, rfl⟩

def endE (s : ByteArray) (e : Int) : Int := if e = 0 ∧ s.size ≠ 0 then 3 else e

theorem End_calls (g : Nat) (s : ByteArray) (e0 : Int) (w : World) (hb : TapeAt w g s e0) :
    Calls Try.prog 86 #[.pointer (some ⟨g, 0, none⟩)] w fun e w' => e = .returned (.int .i64 (endE s e0)) ∧ w = w' := by
  have hc0 : w.cell? ⟨g, 0, none⟩ = some (.string s) := Blk.cell hb 0
  have hc1 : w.cell? ⟨g, 1, none⟩ = some (.int .i64 e0) := Blk.cell hb 1
  by_cases h0 : e0 = 0
  · subst h0
    by_cases h1 : s.size = 0
    · have he := isEmpty_zero s h1
      have e1 : endE s 0 = 0 := by unfold endE; rw [if_neg (by simp [h1])]
      rw [e1]
      clear e1 h1
      go_enter Try.func86, Try.ntmps86
      go_wp2_with (go_at_call 126; refine (Err_calls g s 0 _ hb).mono ?_; rintro e w' ⟨rfl, rfl⟩)
      go_ret
      exact ⟨rfl, rfl⟩
    · have he := isEmpty_size s (by omega)
      have e1 : endE s 0 = 3 := by unfold endE; rw [if_pos ⟨rfl, h1⟩]
      rw [e1]
      clear e1 h1
      go_enter Try.func86, Try.ntmps86
      go_wp2_with (go_at_call 126; refine (Err_calls g s 0 _ hb).mono ?_; rintro e w' ⟨rfl, rfl⟩)
      go_ret
      exact ⟨rfl, rfl⟩
  · have hne : (e0 == 0) = false := by rw [beq_eq_false_iff_ne]; exact h0
    have e1 : endE s e0 = e0 := by unfold endE; rw [if_neg (fun h => h0 h.1)]
    rw [e1]
    clear e1 h0
    go_enter Try.func86, Try.ntmps86
    go_wp2_with (go_at_call 126; refine (Err_calls g s e0 _ hb).mono ?_; rintro e w' ⟨rfl, rfl⟩)
    go_ret
    exact ⟨rfl, rfl⟩

theorem End_nil (w : World) : Calls Try.prog 86 #[.pointer none] w fun e w' => e = .returned (.int .i64 1) ∧ w = w' := by
  go_enter Try.func86, Try.ntmps86
  go_wp2_with (go_at_call 126; refine (Err_nil _).mono ?_; rintro e w' ⟨rfl, rfl⟩)
  go_ret
  exact ⟨rfl, rfl⟩
end Go.Proofs.Ytgmenlfhkhdbdaa.Bits
