/- The contracts of a tape's whole numbers, texts and flags. -/
import Derived.Test.YtgmenlfhkhdbdaaBits5
namespace Go.Proofs.Ytgmenlfhkhdbdaa.Bits
open Go.RowKit Mem
set_option linter.unusedSimpArgs false
set_option linter.unusedVariables false
set_option maxRecDepth 100000

def unfoldI (n : Nat) : Int := if n % 2 = 0 then ((n / 2 : Nat) : Int) else -((n / 2 : Nat) : Int) - 1

theorem xor_i64 (x : Nat) (hx : x < 9223372036854775808) : bits .xor .i64 (x : Int) 0 = x ∧ bits .xor .i64 (x : Int) (-1) = -(x : Int) - 1 := by
  have h1 : (BitVec.ofInt 64 (x : Int)).toNat = x := by
    rw [BitVec.ofInt_natCast, BitVec.toNat_ofNat]; exact Nat.mod_eq_of_lt (by omega)
  constructor
  · show IntKind.i64.wrap ((BitVec.ofInt 64 (x : Int) ^^^ BitVec.ofInt 64 0).toNat : Int) = _
    rw [BitVec.toNat_xor, h1, show (BitVec.ofInt 64 0).toNat = 0 by decide, Nat.xor_zero]
    exact IntWalk.i64_in _ (by omega)
  · show IntKind.i64.wrap ((BitVec.ofInt 64 (x : Int) ^^^ BitVec.ofInt 64 (-1)).toNat : Int) = _
    have e : BitVec.ofInt 64 (-1) = BitVec.allOnes 64 := by decide
    rw [e, BitVec.xor_allOnes, BitVec.toNat_not, h1, IntKind.wrap_i64]
    have := hx
    omega

def textR (s : ByteArray) (e : Int) (most : Int) : ByteArray × ByteArray × Int :=
  if e ≠ 0 then (⟨#[]⟩, s, e) else
  if (Bt.numD s).2.2 ≠ 0 then (⟨#[]⟩, s, (Bt.numD s).2.2) else
  if max most 0 < (Bt.numD s).1 then (⟨#[]⟩, s, 2) else
  if s.size - (Bt.numD s).2.1 < (Bt.numD s).1 then (⟨#[]⟩, s, 5) else
  (s.extract (Bt.numD s).2.1 ((Bt.numD s).2.1 + (Bt.numD s).1), s.extract ((Bt.numD s).2.1 + (Bt.numD s).1) s.size, 0)

theorem textR0 (s : ByteArray) (most : Int) : textR s 0 most =
  if (Bt.numD s).2.2 ≠ 0 then (⟨#[]⟩, s, (Bt.numD s).2.2) else
  if max most 0 < (Bt.numD s).1 then (⟨#[]⟩, s, 2) else
  if s.size - (Bt.numD s).2.1 < (Bt.numD s).1 then (⟨#[]⟩, s, 5) else
  (s.extract (Bt.numD s).2.1 ((Bt.numD s).2.1 + (Bt.numD s).1), s.extract ((Bt.numD s).2.1 + (Bt.numD s).1) s.size, 0) := by
  unfold textR; rw [if_neg (by simp)]

theorem Text_calls (g : Nat) (s : ByteArray) (e0 : Int) (most : Int) (m1 : -9223372036854775808 ≤ most) (m2 : most ≤ 9223372036854775807) (w : World) (hs : s.size ≤ 9007199254740992) (hb : TapeAt w g s e0) :
    Calls Try.prog 85 #[.pointer (some ⟨g, 0, none⟩), .int .i64 most] w fun e w' => e = .returned (.string (textR s e0 most).1) ∧ Mod w w' [g] ∧ TapeAt w' g (textR s e0 most).2.1 (textR s e0 most).2.2 := by
  by_cases h0 : e0 = 0
  · subst h0
    have hD := Bt.numD_facts s
    have nc := tnum_calls g s 0 w hs hb
    have HN := Lib.hid nc
    have hR := textR0 s most
    clear nc
    generalize textR s 0 most = R at *
    generalize Bt.numD s = D at *
    obtain ⟨n, k, e⟩ := D
    simp only at hD HN hR
    obtain ⟨hd1, hd2, hd3, hd4, hd5, hd6⟩ := hD
    have hk : (k : Int) ≤ s.size := by omega
    obtain ⟨M, hM⟩ : ∃ M, (if most < 0 then 0 else most) = M := ⟨_, rfl⟩
    have hM2 : max most 0 = M := by rw [← hM]; split <;> omega
    have hM0 : 0 ≤ M := by omega
    have hM1 : M ≤ 9223372036854775807 := by omega
    rw [hM2] at hR
    clear hM2
    by_cases he : e = 0
    · subst he
      rw [if_neg (by simp)] at hR
      by_cases hm : M < n
      · rw [if_pos hm] at hR
        subst hR
        go_enter Try.func85, Try.ntmps85
        go_wp2_with fail
        refine (stuck_calls g s 0 _ hb).mono ?_
        rintro e w' ⟨rfl, rfl⟩
        go_wp2_with fail
        refine (HN.out).mono ?_
        rintro e w1 ⟨rfl, hm1⟩
        have hb1 : TapeAt w1 g s 0 := Blk.mod hb hm1 (by simp)
        go_wp2_with fail
        refine (fail_calls g s 0 _ _ hb1).mono ?_
        rintro e w2 ⟨rfl, hm2, hb2⟩
        have HM := Lib.hid ((hm1.weak0 (R := [g])).trans hm2 (by simp))
        have HB := Lib.hid hb2
        clear hm1 hm2 hb1 hb2
        go_wp2_with fail
        go_ret
        exact ⟨rfl, HM.out, HB.out⟩
      · rw [if_neg hm] at hR
        by_cases hl : s.size - k < n
        · rw [if_pos hl] at hR
          subst hR
          have hl' : (s.size : Int) - (k : Int) < n := by omega
          go_enter Try.func85, Try.ntmps85
          go_wp2_with fail
          refine (stuck_calls g s 0 _ hb).mono ?_
          rintro e w' ⟨rfl, rfl⟩
          go_wp2_with fail
          refine (HN.out).mono ?_
          rintro e w1 ⟨rfl, hm1⟩
          have hb1 : TapeAt w1 g s 0 := Blk.mod hb hm1 (by simp)
          have hc0 : w1.cell? ⟨g, 0, none⟩ = some (.string s) := Blk.cell hb1 0
          go_wp2_with fail
          refine (fail_calls g s 0 _ _ hb1).mono ?_
          rintro e w2 ⟨rfl, hm2, hb2⟩
          have HM := Lib.hid ((hm1.weak0 (R := [g])).trans hm2 (by simp))
          have HB := Lib.hid hb2
          clear hm1 hm2 hb1 hb2
          go_wp2_with fail
          go_ret
          exact ⟨rfl, HM.out, HB.out⟩
        · rw [if_neg hl] at hR
          subst hR
          have hl' : (n : Int) ≤ (s.size : Int) - (k : Int) := by omega
          have hn64 : (n : Int) ≤ 9007199254740992 := by omega
          have hw1 : IntKind.i64.wrap (n : Int) = n := IntWalk.i64_in _ (by omega)
          go_enter Try.func85, Try.ntmps85
          go_wp2_with fail
          refine (stuck_calls g s 0 _ hb).mono ?_
          rintro e w' ⟨rfl, rfl⟩
          go_wp2_with fail
          refine (HN.out).mono ?_
          rintro e w1 ⟨rfl, hm1⟩
          have hb1 : TapeAt w1 g s 0 := Blk.mod hb hm1 (by simp)
          have hc0 : w1.cell? ⟨g, 0, none⟩ = some (.string s) := Blk.cell hb1 0
          have hf0 := Blk.free hb1 0
          have HM := Lib.hid hm1
          have HB := Lib.hid hb1
          clear hm1 hb1
          go_wp2
          go_ret
          exact ⟨rfl, HM.out.weak0.setCell (by simp) _, Blk.set HB.out 0 _⟩
    · have he' : (e != 0) = true := by rw [bne_iff_ne]; exact he
      rw [if_pos he] at hR
      subst hR
      go_enter Try.func85, Try.ntmps85
      go_wp2_with fail
      refine (stuck_calls g s 0 _ hb).mono ?_
      rintro e w' ⟨rfl, rfl⟩
      go_wp2_with fail
      refine (HN.out).mono ?_
      rintro e w1 ⟨rfl, hm1⟩
      have hb1 : TapeAt w1 g s 0 := Blk.mod hb hm1 (by simp)
      go_wp2_with fail
      refine (fail_calls g s 0 _ _ hb1).mono ?_
      rintro e w2 ⟨rfl, hm2, hb2⟩
      have HM := Lib.hid ((hm1.weak0 (R := [g])).trans hm2 (by simp))
      have HB := Lib.hid hb2
      clear hm1 hm2 hb1 hb2
      go_wp2_with fail
      go_ret
      exact ⟨rfl, HM.out, HB.out⟩
  · have hne : (e0 != 0) = true := by rw [bne_iff_ne]; exact h0
    have e1 : textR s e0 most = (⟨#[]⟩, s, e0) := by unfold textR; rw [if_pos h0]
    rw [e1]
    clear e1 h0
    go_enter Try.func85, Try.ntmps85
    go_wp2_with fail
    refine (stuck_calls g s e0 _ hb).mono ?_
    rintro e w' ⟨rfl, rfl⟩
    rw [hne]
    go_wp2_with fail
    go_ret
    exact ⟨rfl, Mod.refl _ _, hb⟩

theorem Text_nil (most : Int) (w : World) : Calls Try.prog 85 #[.pointer none, .int .i64 most] w fun e w' => e = .returned (.string ⟨#[]⟩) ∧ w = w' := by
  go_enter Try.func85, Try.ntmps85
  go_wp2_with (go_at_call 123; refine (stuck_nil _).mono ?_; rintro e w' ⟨rfl, rfl⟩)
  go_ret
  exact ⟨rfl, rfl⟩

def flagR (s : ByteArray) (e : Int) : Bool × ByteArray × Int :=
  if e ≠ 0 then (false, s, e) else if s.size = 0 then (false, s, 5) else if 1 < Bt.byt s 0 then (false, s, 3) else (decide (Bt.byt s 0 = 1), s.extract 1 s.size, 0)

theorem Flag_calls (g : Nat) (s : ByteArray) (e0 : Int) (w : World) (hs : s.size ≤ 9007199254740992) (hb : TapeAt w g s e0) :
    Calls Try.prog 84 #[.pointer (some ⟨g, 0, none⟩)] w fun e w' => e = .returned (.bool (flagR s e0).1) ∧ Mod w w' [g] ∧ TapeAt w' g (flagR s e0).2.1 (flagR s e0).2.2 := by
  have hc0 : w.cell? ⟨g, 0, none⟩ = some (.string s) := Blk.cell hb 0
  have hf0 := Blk.free hb 0
  by_cases h0 : e0 = 0
  · subst h0
    by_cases h1 : s.size = 0
    · have he := isEmpty_zero s h1
      have e1 : flagR s 0 = (false, s, 5) := by unfold flagR; rw [if_neg (by simp), if_pos h1]
      rw [e1]
      clear e1 h1
      go_enter Try.func84, Try.ntmps84
      go_wp2_with fail
      refine (stuck_calls g s 0 _ hb).mono ?_
      rintro e w' ⟨rfl, rfl⟩
      go_wp2_with fail
      refine (fail_calls g s 0 _ _ hb).mono ?_
      rintro e w2 ⟨rfl, hm2, hb2⟩
      go_wp2_with fail
      go_ret
      exact ⟨rfl, hm2, hb2⟩
    · have hpos : 0 < s.size := by omega
      have he := isEmpty_size s hpos
      have hby := Bt.byt_lt s 0
      have hg0 : s[0].toNat = Bt.byt s 0 := Bt.byt_get s 0 hpos
      by_cases h2 : 1 < Bt.byt s 0
      · have e1 : flagR s 0 = (false, s, 3) := by unfold flagR; rw [if_neg (by simp), if_neg h1, if_pos h2]
        rw [e1]
        clear e1 h1
        generalize Bt.byt s 0 = c at *
        have h2' : 1 < (c : Int) := by omega
        go_enter Try.func84, Try.ntmps84
        go_wp2_with fail
        refine (stuck_calls g s 0 _ hb).mono ?_
        rintro e w' ⟨rfl, rfl⟩
        go_wp2_with fail
        refine (fail_calls g s 0 _ _ hb).mono ?_
        rintro e w2 ⟨rfl, hm2, hb2⟩
        go_wp2_with fail
        go_ret
        exact ⟨rfl, hm2, hb2⟩
      · have e1 : flagR s 0 = (decide (Bt.byt s 0 = 1), s.extract 1 s.size, 0) := by unfold flagR; rw [if_neg (by simp), if_neg h1, if_neg h2]
        rw [e1]
        clear e1 h1
        generalize Bt.byt s 0 = c at *
        have h2' : (c : Int) ≤ 1 := by omega
        go_enter Try.func84, Try.ntmps84
        go_wp2_with fail
        refine (stuck_calls g s 0 _ hb).mono ?_
        rintro e w' ⟨rfl, rfl⟩
        go_wp2
        go_ret
        refine ⟨ret_bool ?_, (Mod.refl _ _).setCell (by simp) _, Blk.set hb 0 _⟩
        rw [Bool.eq_iff_iff, beq_iff_eq, decide_eq_true_iff]; omega
  · have hne : (e0 != 0) = true := by rw [bne_iff_ne]; exact h0
    have e1 : flagR s e0 = (false, s, e0) := by unfold flagR; rw [if_pos h0]
    rw [e1]
    clear e1 h0
    go_enter Try.func84, Try.ntmps84
    go_wp2_with fail
    refine (stuck_calls g s e0 _ hb).mono ?_
    rintro e w' ⟨rfl, rfl⟩
    rw [hne]
    go_wp2_with fail
    go_ret
    exact ⟨rfl, Mod.refl _ _, hb⟩
theorem Flag_nil (w : World) : Calls Try.prog 84 #[.pointer none] w fun e w' => e = .returned (.bool false) ∧ w = w' := by
  go_enter Try.func84, Try.ntmps84
  go_wp2_with (go_at_call 123; refine (stuck_nil _).mono ?_; rintro e w' ⟨rfl, rfl⟩)
  go_ret
  exact ⟨rfl, rfl⟩
end Go.Proofs.Ytgmenlfhkhdbdaa.Bits
