/- Books: Forget. -/
import Derived.Test.YtceocpohdckkoaaBx5
namespace Go.Proofs.Ytceocpohdckkoaa.Bx
open Go.RowKit Mem
set_option linter.unusedSimpArgs false
set_option linter.unusedVariables false
set_option maxRecDepth 100000

def forgetS (base : Int) (rows : List (List Int)) (n : Int) : Int × Int × List (List Int) :=
  if n < 0 ∨ base + rows.length < n then (1, base, rows) else if base < n then (0, n, rows.drop (n - base).toNat) else (0, base, rows)
theorem forget_nil (n : Int) (w : World) : Calls Try.prog 17 #[.pointer none, .int .i64 n] w fun e w' => e = .returned (.int .i64 1) ∧ w = w' := by
  go_enter Try.func17, Try.ntmps17
  go_wp2
  go_ret
  exact ⟨rfl, rfl⟩
set_option maxHeartbeats 2000000 in
theorem forget_calls {w : World} {N : Nat} {X : Nat → Prop} {g : Nat} {base : Int} {rows : List (List Int)} (h : BookAt w N X g base rows) (n : Int)
    (hb0 : 0 ≤ base) (hb1 : base ≤ 549755813888) (hl : rows.length ≤ 64) (hNw : N ≤ w.heap.size) :
    Calls Try.prog 17 #[.pointer (some ⟨g, 0, none⟩), .int .i64 n] w (PutP w N X g (forgetS base rows n)) := by
  have H := Lib.hid h
  have EC := Lib.hid (fun w' (m : Mod w w' []) => end_calls (h.mod m) (by omega) hb1 (by omega))
  have hlr : (rows.length : Int) ≤ 64 := by omega
  clear h
  by_cases h0 : n < 0
  · have hr := Lib.hid (show forgetS base rows n = (1, base, rows) by unfold forgetS; rw [if_pos (.inl h0)])
    go_enter Try.func17, Try.ntmps17
    go_wp2
    go_ret
    rw [hr.out]
    exact ⟨rfl, H.out, .refl _ _ _⟩
  have h0' : 0 ≤ n := by omega
  have hb0' : decide (n < 0) = false := decide_eq_false h0
  by_cases h1 : base + rows.length < n
  · have hr := Lib.hid (show forgetS base rows n = (1, base, rows) by unfold forgetS; rw [if_pos (.inr h1)])
    go_enter Try.func17, Try.ntmps17
    go_wp2_with fail
    (with_reducible refine (EC.out _ (Mod.refl _ _)).mono ?_)
    rintro e w1 ⟨rfl, hm1⟩
    go_wp2_with fail
    go_ret
    rw [hr.out]
    exact ⟨rfl, H.out.mod hm1, .mod hNw hm1⟩
  have h1' : n ≤ base + rows.length := by omega
  have hb1' : decide (base + (rows.length : Int) < n) = false := decide_eq_false h1
  by_cases h2 : base < n
  · have hr := Lib.hid (show forgetS base rows n = (0, n, rows.drop (n - base).toNat) by unfold forgetS; rw [if_neg (by omega), if_pos h2])
    obtain ⟨d, hd⟩ : ∃ d : Nat, n - base = (d : Int) := ⟨(n - base).toNat, by omega⟩
    have hd1 : 1 ≤ d := by omega
    have hd2 : d ≤ rows.length := by omega
    have HD := Lib.hid hd
    go_enter Try.func17, Try.ntmps17
    go_wp2_with fail
    (with_reducible refine (EC.out _ (Mod.refl _ _)).mono ?_)
    rintro e w1 ⟨rfl, hm1⟩
    have HK1 := Lib.hid (H.out.mod hm1)
    have HW1 := Lib.hid (Bw.mod (g := g) hNw hm1)
    obtain ⟨a1, c1, hb⟩ := HK1.out.rows
    have c0 := hb.cell 0
    have DC := Lib.hid (drop_calls HK1.out d hd1 hd2 (by omega) (by omega) hb1)
    clear hb hm1
    go_wp2_with fail
    (with_reducible refine (DC.out).mono ?_)
    rintro e w2 ⟨rfl, hk2, hw2⟩
    have HK2 := Lib.hid hk2
    have HW2 := Lib.hid (HW1.out.trans hw2)
    clear hk2 hw2 DC
    go_wp2_with fail
    go_ret
    rw [hr.out, HD.out, Int.toNat_natCast]
    refine ⟨rfl, ?_, HW2.out⟩
    have := HK2.out
    rw [show base + (d : Int) = n by have := HD.out; omega] at this
    exact this
  · have h2' : n ≤ base := by omega
    have hr := Lib.hid (show forgetS base rows n = (0, base, rows) by unfold forgetS; rw [if_neg (by omega), if_neg h2])
    go_enter Try.func17, Try.ntmps17
    go_wp2_with fail
    (with_reducible refine (EC.out _ (Mod.refl _ _)).mono ?_)
    rintro e w1 ⟨rfl, hm1⟩
    have HM1 := Lib.hid hm1
    obtain ⟨a1, c1, hb⟩ := (H.out.mod hm1).rows
    have c0 := hb.cell 0
    clear hb hm1
    go_wp2_with fail
    go_ret
    rw [hr.out]
    exact ⟨rfl, H.out.mod HM1.out, .mod hNw HM1.out⟩
end Go.Proofs.Ytceocpohdckkoaa.Bx
