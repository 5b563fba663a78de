/- Books: may, Clone of a row, Base, End. -/
import Derived.Test.YtceocpohdckkoaaBx1
import Derived.Laws.AppendOwn
namespace Go.Proofs.Ytceocpohdckkoaa.Bx
open Go.RowKit Mem
set_option linter.unusedSimpArgs false
set_option linter.unusedVariables false
set_option maxRecDepth 100000

def rising : List Int → Bool
  | x :: y :: l => decide (x < y) && rising (y :: l)
  | _ => true
def mayB (xs : List Int) : Bool := decide (1 ≤ xs.length) && decide (xs.length ≤ 16) && decide (0 ≤ gi xs 0) && decide (gi xs (xs.length - 1) ≤ 549755813888) && rising xs
theorem rising_iff : ∀ (l : List Int), rising l = true ↔ ∀ i, i + 1 < l.length → gi l i < gi l (i + 1)
  | [] => by simp [rising]
  | [x] => by simp [rising]
  | x :: y :: l => by
    unfold rising
    rw [Bool.and_eq_true, decide_eq_true_iff, rising_iff (y :: l)]
    constructor
    · rintro ⟨h1, h2⟩ i hi
      cases i with
      | zero => simpa [gi] using h1
      | succ i =>
        have := h2 i (by simpa using hi)
        simpa [gi] using this
    · intro h
      refine ⟨by simpa [gi] using h 0 (by simp), fun i hi => ?_⟩
      have := h (i + 1) (by simpa using hi)
      simpa [gi] using this
theorem ret_bool {a b : Bool} (h : a = b) : Ending.returned (.bool a) = Ending.returned (.bool b) := by rw [h]

/-- A row of numbers that is read, or an empty one. -/
def IntsR (A : World) (u : Value) (xs : List Int) : Prop := (xs = [] ∧ ∃ ad cap, u = .slice ad 0 cap) ∨ IntsC A u xs
theorem IntsR.kept {A B : World} {u : Value} {xs : List Int} (h : IntsR A u xs) (k : Kept A B) : IntsR B u xs := h.imp id (fun h => h.kept k)

set_option maxHeartbeats 2000000 in
theorem may_calls (xs : List Int) (u : Value) (w : World) (h : IntsR w u xs) (hn : xs.length ≤ 140737488351232) :
    Calls Try.prog 42 #[.agg #[u]] w fun e w' => e = .returned (.bool (mayB xs)) ∧ Mod w w' [] := by
  rcases h with ⟨rfl, ad, cap, rfl⟩ | ⟨b, off, cap, rfl, hcap, hc⟩
  · go_enter Try.func42, Try.ntmps42
    go_wp2
    go_ret
    exact ⟨rfl, (Mod.refl _ _).alloc _⟩
  · obtain ⟨n, hnx⟩ : ∃ n, xs.length = n := ⟨_, rfl⟩
    rw [hnx] at hn hcap hc ⊢
    have hn' : (n : Int) ≤ 140737488351232 := by omega
    have hcap' : (n : Int) ≤ cap := by omega
    have HX := Lib.hid hnx
    have HM := Lib.hid ((Mod.refl w []).alloc (.cells #[.slice (some ⟨b, off, none⟩) n cap] 32))
    have HC : Hid (∀ i, i < n → (w.alloc (.cells #[.slice (some ⟨b, off, none⟩) n cap] 32)).cell? ⟨b, off + i, none⟩ = some (.int .i64 (gi xs i))) := Lib.hid (fun i hi => by
      exact (Kept.mod HM.out).cell (hc i (by omega)))
    clear hc hnx
    by_cases h0 : n < 1
    · have h0' : (n : Int) < 1 := by omega
      have hr := Lib.hid (show false = mayB xs by unfold mayB; rw [HX.out, decide_eq_false (by omega : ¬ 1 ≤ n)]; rfl)
      go_enter Try.func42, Try.ntmps42
      go_wp2
      go_ret
      exact ⟨ret_bool hr.out, HM.out⟩
    have h0' : (1 : Int) ≤ n := by omega
    by_cases h1 : 16 < n
    · have h1' : (16 : Int) < n := by omega
      have hr := Lib.hid (show false = mayB xs by unfold mayB; rw [HX.out, decide_eq_false (by omega : ¬ n ≤ 16)]; simp)
      go_enter Try.func42, Try.ntmps42
      go_wp2
      go_ret
      exact ⟨ret_bool hr.out, HM.out⟩
    have h1' : (n : Int) ≤ 16 := by omega
    have hb1 : decide ((n : Int) < 1) = false := decide_eq_false (by omega)
    have hb2 : decide ((16 : Int) < n) = false := decide_eq_false (by omega)
    have c0 := HC.out 0 (by omega)
    rw [Nat.add_zero] at c0
    have hpos : (0 : Int) < n := by omega
    by_cases h2 : gi xs 0 < 0
    · have hr := Lib.hid (show false = mayB xs by unfold mayB; rw [decide_eq_false (by omega : ¬ 0 ≤ gi xs 0)]; simp)
      generalize gi xs 0 = x0 at *
      go_enter Try.func42, Try.ntmps42
      go_wp2
      go_ret
      exact ⟨ret_bool hr.out, HM.out⟩
    have h2' : 0 ≤ gi xs 0 := by omega
    have hb3 : decide (gi xs 0 < 0) = false := decide_eq_false (by omega)
    obtain ⟨m, hm⟩ : ∃ m : Nat, n = m + 1 := ⟨n - 1, by omega⟩
    have c1 := HC.out m (by omega)
    have hm1 : (n : Int) - 1 = (m : Int) := by omega
    have hmn : (m : Int) < n := by omega
    have HMM := Lib.hid hm
    clear hm
    by_cases h3 : 549755813888 < gi xs m
    · have hr := Lib.hid (show false = mayB xs by unfold mayB; rw [HX.out, HMM.out, Nat.add_sub_cancel, decide_eq_false (by omega : ¬ gi xs m ≤ 549755813888)]; simp)
      generalize gi xs 0 = x0 at *
      generalize gi xs m = xm at *
      go_enter Try.func42, Try.ntmps42
      go_wp2
      go_ret
      exact ⟨ret_bool hr.out, HM.out⟩
    have h3' : gi xs m ≤ 549755813888 := by omega
    have hb4 : decide (549755813888 < gi xs m) = false := decide_eq_false (by omega)
    have HR := Lib.hid (show mayB xs = rising xs by
      unfold mayB
      rw [HX.out, HMM.out, Nat.add_sub_cancel, decide_eq_true h2', decide_eq_true h3', decide_eq_true (by omega : 1 ≤ m + 1), decide_eq_true (by have := HMM.out; omega : m + 1 ≤ 16)]
      rfl)
    have HI := Lib.hid (rising_iff xs)
    generalize gi xs 0 = x0 at *
    generalize gi xs m = xm at *
    have hm2 : ((n - 1 : Nat) : Int) = (m : Int) := by have := HMM.out; omega
    have hb0 : (w.alloc (.cells #[.slice (some ⟨b, off, none⟩) n cap] 32)).cell? ⟨w.heap.size, 0, none⟩ = some (.slice (some ⟨b, off, none⟩) n cap) := (Blk.new w #[.slice (some ⟨b, off, none⟩) n cap] 32).cell 0
    by_cases hc1 : cap = 1
    · have hn1 : n = 1 := by omega
      have hr := Lib.hid (show true = mayB xs by
        rw [HR.out, HI.out.2 (fun j hj => by have := HX.out; omega)])
      have hm0 : m = 0 := by have := HMM.out; omega
      clear HX HC HR HI HMM hb1 hb2
      subst hc1 hn1 hm0
      rw [Nat.add_zero] at c1
      rw [c0] at c1
      injection c1 with c1
      injection c1 with _ c1
      subst c1
      clear hm1 hmn hpos h1' h0' hn' hcap' hm2 h0 h1
      go_enter Try.func42, Try.ntmps42
      go_wp2
      generalize w.alloc _ = W at *
      go_loop [35] (fun vi => vi = .int .i64 0) (fun vi => 0)
      case atStart => rfl
      case round =>
        subst hrel
        go_wp2
        go_ret
        exact ⟨ret_bool hr.out, HM.out⟩
    go_enter Try.func42, Try.ntmps42
    go_wp2
    generalize w.alloc _ = W at *
    clear c0 c1
    go_loop [35] (fun vi => ∃ i : Nat, i ≤ m ∧ vi = .int .i64 (i : Int) ∧ Hid (∀ j, j < i → gi xs j < gi xs (j + 1))) (fun vi => m + 1 - (intOf vi).toNat)
    case atStart => exact ⟨0, Nat.zero_le _, rfl, Lib.hid (fun j h => by omega)⟩
    case round =>
      obtain ⟨i, hi, rfl, HJ⟩ := hrel
      by_cases hlt : i < m
      · have hlt' : (i : Int) < m := by omega
        have hin : (i : Int) < n := by omega
        have d0 := HC.out i (by have := HMM.out; omega)
        have d1 := HC.out (i + 1) (by have := HMM.out; omega)
        rw [show off + (i + 1) = off + 1 + i by omega] at d1
        have HG := Lib.hid (show gi xs i < gi xs (i + 1) → ∀ j, j < i + 1 → gi xs j < gi xs (j + 1) from fun h j hj => by
          by_cases e : j = i
          · subst e; exact h
          · exact HJ.out j (by omega))
        by_cases hup : gi xs (i + 1) ≤ gi xs i
        · have hr := Lib.hid (show false = mayB xs by
            rw [HR.out]
            cases hh : rising xs with
            | false => rfl
            | true => have := (HI.out.1 hh) i (by have := HMM.out; have := HX.out; omega); omega)
          generalize gi xs i = a0 at *
          generalize gi xs (i + 1) = a1 at *
          go_wp2
          go_ret
          exact ⟨ret_bool hr.out, HM.out⟩
        · have hup' : gi xs i < gi xs (i + 1) := by omega
          have HG2 := Lib.hid (HG.out hup')
          clear HG
          generalize gi xs i = a0 at *
          generalize gi xs (i + 1) = a1 at *
          go_wp2
          go_round
          case rel => exact ⟨i + 1, by omega, by go_num, HG2⟩
          case measure => simp [intOf]; omega
      · have hge : (m : Int) ≤ i := by omega
        have hr := Lib.hid (show true = mayB xs by
          rw [HR.out, HI.out.2 (fun j hj => HJ.out j (by have := HMM.out; have := HX.out; omega))])
        go_wp2
        go_ret
        exact ⟨ret_bool hr.out, HM.out⟩
end Go.Proofs.Ytceocpohdckkoaa.Bx
