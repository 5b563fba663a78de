/- The contracts of the least and the most. -/
import Derived.Test.YtobifcffgkagbaaReal9
import Derived.Test.YtobifcffgkagbaaFlE
import Derived.Test.YtobifcffgkagbaaOpen
namespace Go.Proofs.Ytobifcffgkagbaa
open Go.RowKit
set_option linter.unusedSimpArgs false
set_option linter.unusedVariables false

theorem endsS_n (l : List Nat) (k : Nat) : (Fl.endsS l k).n ≤ k := (Fl.tied l k).2.1

theorem endsS_lt (l : List Nat) (hw : ∀ x ∈ l, x < 18446744073709551616) : ∀ k, k ≤ l.length → (Fl.endsS l k).x < 18446744073709551616 ∧ (Fl.endsS l k).y < 18446744073709551616
  | 0, _ => ⟨by show 0 < _; decide, by show 0 < _; decide⟩
  | k + 1, h => by
    have ih := endsS_lt l hw k (by omega)
    have hk : l.getD k 0 < 18446744073709551616 := by
      rw [List.getD_eq_getElem?_getD, List.getElem?_eq_getElem (by omega)]
      exact hw _ (List.getElem_mem (by omega))
    unfold Fl.endsS Fl.nextS
    cases Fl.nanB (l.getD k 0)
    · simp only [Bool.false_eq_true, if_false]
      constructor <;> split <;> omega
    · simpa using ih

set_option maxHeartbeats 1000000 in
theorem ends_calls (b off cap : Nat) (l : List Nat) (w : World) (hm : l.length ≤ 9223372036854775807) (hc : ∀ k, k < l.length → w.cell? ⟨b, off + k, none⟩ = some (.float .f64 (l.getD k 0))) (hw : ∀ x ∈ l, x < 18446744073709551616) :
    Calls Try.prog 28 #[.slice (some ⟨b, off, none⟩) l.length cap] w fun e w' => e = .returned (.tuple #[.float .f64 (Fl.endsS l l.length).x, .float .f64 (Fl.endsS l l.length).y, .int .i64 (Fl.endsS l l.length).n]) ∧ w = w' := by
  have HC := Lib.hid hc
  have HN := Lib.hid (endsS_n l)
  have HLT := Lib.hid (endsS_lt l hw)
  have hst0 : ∀ k, Fl.endsS l (k + 1) = Fl.nextS (l.getD k 0) (Fl.endsS l k) := fun k => rfl
  have HST := Lib.hid hst0
  clear hst0
  have HW : Hid (∀ k, k < l.length → l.getD k 0 < 18446744073709551616) := Lib.hid (fun k hk => by
      rw [List.getD_eq_getElem?_getD, List.getElem?_eq_getElem (by omega)]
      exact hw _ (List.getElem_mem (by omega)))
  clear hc hw
  generalize hlen : l.length = len at *
  clear hlen
  go_enter Try.func28, Try.ntmps28
  go_wp2_with fail
  go_loop [2, 3, 4, 9] (fun vx vy vn vi => ∃ k : Nat, k ≤ len ∧ vi = .int .i64 k ∧ vx = .float .f64 (Fl.endsS l k).x ∧ vy = .float .f64 (Fl.endsS l k).y ∧ vn = .int .i64 (Fl.endsS l k).n) (fun _ _ _ vi => len - (intOf vi).toNat)
  case atStart => exact ⟨0, by omega, rfl, rfl, rfl, rfl⟩
  case round =>
    obtain ⟨k, hk, rfl, rfl, rfl, rfl⟩ := hrel
    by_cases hlt : k < len
    · have hcell := HC.out k hlt
      have hst := HST.out k
      have hb := HLT.out k hk
      have hf := HW.out k hlt
      have hn := HN.out k
      generalize hs : Fl.endsS l k = s at *
      generalize l.getD k 0 = f at *
      obtain ⟨x, y, n⟩ := s
      simp only at hb hn
      obtain ⟨hx, hy⟩ := hb
      have HS := Lib.hid hs
      have HT := Lib.hid hst
      have hk' : (k : Int) < len := by omega
      have hn' : (n : Int) ≤ k := by omega
      clear hs hst
      cases hnan : Fl.nanB f
      · by_cases hn0 : n = 0
        · have hz : ((n : Int) == 0) = true := by rw [beq_iff_eq]; omega
          have HE : Hid (Fl.endsS l (k + 1) = ⟨f, f, n + 1⟩) := Lib.hid (by rw [HT.out]; unfold Fl.nextS; rw [hnan]; simp [hn0])
          clear hn0
          go_wp2
          go_round
          case rel => exact ⟨k + 1, by omega, by go_num, by rw [HE.out], by rw [HE.out], by rw [HE.out]; go_num⟩
          case measure => simp [intOf]; omega
        · have hz : ((n : Int) == 0) = false := by rw [beq_eq_false_iff_ne]; omega
          by_cases c1 : Fl.rankB f < Fl.rankB x <;> by_cases c2 : Fl.rankB y < Fl.rankB f
          all_goals
            have HE : Hid (Fl.endsS l (k + 1) = ⟨if Fl.rankB f < Fl.rankB x then f else x, if Fl.rankB y < Fl.rankB f then f else y, n + 1⟩) := Lib.hid (by rw [HT.out]; unfold Fl.nextS; rw [hnan]; simp [hn0])
            have e1 : decide (Fl.rankB f < Fl.rankB x) = _ := rfl
            have e2 : decide (Fl.rankB y < Fl.rankB f) = _ := rfl
            simp only [c1, c2, if_true, if_false] at HE
            have L1 : Hid (∀ w, Calls Try.prog 26 #[.float .f64 f, .float .f64 x] w fun e w' => e = .returned (.bool (decide (Fl.rankB f < Fl.rankB x))) ∧ w = w') := Lib.hid (fun w => less_calls f x hf hx w)
            have L2 : Hid (∀ w, Calls Try.prog 26 #[.float .f64 y, .float .f64 f] w fun e w' => e = .returned (.bool (decide (Fl.rankB y < Fl.rankB f))) ∧ w = w') := Lib.hid (fun w => less_calls y f hy hf w)
            simp only [c1, c2, decide_true, decide_false] at L1 L2
            clear e1 e2 c1 c2 hf hx hy hn0
            go_wp2_with (go_at_call 26; (first | (with_reducible refine (L1.out _).mono ?_) | (with_reducible refine (L2.out _).mono ?_)); rintro e w' ⟨rfl, rfl⟩)
            go_round
            case rel => exact ⟨k + 1, by omega, by go_num, by rw [HE.out], by rw [HE.out], by rw [HE.out]; go_num⟩
            case measure => simp [intOf]; omega
      · have HE : Hid (Fl.endsS l (k + 1) = ⟨x, y, n⟩) := Lib.hid (by rw [HT.out]; unfold Fl.nextS; rw [hnan]; rfl)
        go_wp2
        go_round
        case rel => exact ⟨k + 1, by omega, by go_num, by rw [HE.out], by rw [HE.out], by rw [HE.out]⟩
        case measure => simp [intOf]; omega
    · obtain rfl : k = len := by omega
      go_wp2
      go_ret3
      exact ⟨ret3 rfl rfl rfl, rfl⟩
end Go.Proofs.Ytobifcffgkagbaa
