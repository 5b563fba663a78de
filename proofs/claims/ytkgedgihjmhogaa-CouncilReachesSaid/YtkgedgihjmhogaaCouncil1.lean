/- The contracts of a council's masks. -/
import Derived.Test.YtkgedgihjmhogaaMem
import Derived.Test.YtkgedgihjmhogaaCo
import Derived.Test.YtkgedgihjmhogaaProg
import Derived.WalkKit
import Derived.WalkSpells
import Derived.WalkLawsBesides
import Derived.KernelRfl
import Derived.Lib.Hide
import Derived.Deep.RegionWith
import Derived.ProofKit
import Derived.Laws.BitsAllLaws
namespace Go.Proofs.Ytkgedgihjmhogaa.Council
open Go.RowKit Mem
set_option linter.unusedSimpArgs false
set_option linter.unusedVariables false

theorem known_calls (m : Int) (w : World) : Calls Try.prog 43 #[.int .i64 m] w fun e w' => e = .returned (.int .i64 (Co.kn m)) ∧ w = w' := by
  by_cases h : 0 ≤ m ∧ m ≤ 127
  · obtain ⟨h1, h2⟩ := h
    have hk : (Co.kn m : Int) = m := by unfold Co.kn; rw [if_pos ⟨h1, h2⟩]; omega
    rw [hk]
    clear hk
    go_enter Try.func43, Try.ntmps43
    go_wp2
    go_ret
    exact ⟨rfl, rfl⟩
  · have hk : Co.kn m = 0 := by unfold Co.kn; rw [if_neg h]
    rw [hk]
    clear hk
    by_cases h1 : m < 0
    · clear h
      go_enter Try.func43, Try.ntmps43
      go_wp2
      go_ret
      exact ⟨rfl, rfl⟩
    · have h2 : 127 < m := by omega
      clear h
      go_enter Try.func43, Try.ntmps43
      go_wp2
      go_ret
      exact ⟨rfl, rfl⟩

theorem ret_int {k : IntKind} {a b : Int} (h : a = b) : Ending.returned (.int k a) = .returned (.int k b) := by rw [h]
theorem ret_bool {a b : Bool} (h : a = b) : Ending.returned (.bool a) = .returned (.bool b) := by rw [h]

theorem has_calls (m n : Int) (w : World) : Calls Try.prog 23 #[.int .i64 m, .int .i64 n] w fun e w' => e = .returned (.bool (Co.hasI m n)) ∧ w = w' := by
  have kc := fun w => known_calls m w
  have hk := Co.kn_lt m
  unfold Co.hasI
  generalize Co.kn m = k at *
  have KC := Lib.hid kc
  clear kc
  by_cases h1 : n < 0
  · have hd : decide (0 ≤ n ∧ n < 7) = false := by simp; omega
    rw [hd, Bool.false_and]
    clear hd
    go_enter Try.func23, Try.ntmps23
    go_wp2_with fail
    go_ret
    exact ⟨rfl, rfl⟩
  by_cases h2 : 7 ≤ n
  · have hd : decide (0 ≤ n ∧ n < 7) = false := by simp; omega
    rw [hd, Bool.false_and]
    clear hd
    go_enter Try.func23, Try.ntmps23
    go_wp2_with fail
    go_ret
    exact ⟨rfl, rfl⟩
  obtain ⟨i, rfl⟩ := Int.eq_ofNat_of_zero_le (by omega : 0 ≤ n)
  have hi : (i : Int) < 7 := by omega
  have hd : decide (0 ≤ (i : Int) ∧ (i : Int) < 7) = true := by simp; omega
  rw [hd, Bool.true_and]
  clear hd
  have hsh : (k : Int) / 2 ^ i = ((k / 2 ^ i : Nat) : Int) := by rw [Int.natCast_ediv, Int.natCast_pow]; rfl
  have hq : k / 2 ^ i ≤ k := Nat.div_le_self _ _
  have hand := Co.and_i64 (k / 2 ^ i) 1 (by omega) (by decide)
  rw [nat_mask1, show ((1 : Nat) : Int) = 1 from rfl] at hand
  have HH : Hid (Co.hb k i = (((k / 2 ^ i % 2 : Nat) : Int) == 1)) := Lib.hid (by unfold Co.hb; rw [Bool.eq_iff_iff, beq_iff_eq, beq_iff_eq]; omega)
  rw [Int.toNat_natCast, HH.out]
  generalize k / 2 ^ i = q at *
  go_enter Try.func23, Try.ntmps23
  go_wp2_with fail
  refine (KC.out _).mono ?_
  rintro e w1 ⟨rfl, rfl⟩
  go_wp2_with fail
  go_ret
  exact ⟨ret_bool (by first | rfl | simp), rfl⟩

theorem info_int : (Try.prog.info? 3).map (fun i => (i.zero, i.size, i.bytes)) = some (some (.int .i64 0), 1, 8) := by kernel_rfl

abbrev vals (l : List Nat) : List Value := l.map (fun (n : Nat) => Value.int .i64 (n : Int))

theorem nodes_calls (m : Int) (w : World) : Calls Try.prog 19 #[.int .i64 m] w fun e w' =>
    ∃ v, e = .returned v ∧ Mod w w' [] ∧ w'.ownsRow w.heap.size 3 1 v (Co.nodesL (Co.kn m)).length (vals (Co.nodesL (Co.kn m))) := by
  have hc := fun n w => has_calls m n w
  have hh : ∀ j : Nat, j < 7 → Co.hasI m (j : Int) = Co.hb (Co.kn m) j := fun j hj => by
    unfold Co.hasI
    rw [show decide (0 ≤ (j : Int) ∧ (j : Int) < 7) = true by simp; omega, Bool.true_and, Int.toNat_natCast]
  generalize Co.kn m = k at *
  have HC := Lib.hid hc
  have HH := Lib.hid hh
  clear hc hh
  obtain ⟨i0, hi, hz0, hz1, hz2⟩ := info_parts info_int
  go_enter Try.func19, Try.ntmps19
  go_wp2_with fail
  go_loopw [3, 5] (fun vb vi wr => ∃ j : Nat, j ≤ 7 ∧ vi = .int .i64 (j : Int) ∧ Mod w wr [] ∧ wr.ownsRow w.heap.size 3 1 vb (Co.nodesTo k j).length (vals (Co.nodesTo k j))) (fun _ vi _ => 8 - (intOf vi).toNat)
  case atStart => exact ⟨0, by omega, rfl, Mod.refl _ _, rfl, .inl ⟨rfl, rfl⟩⟩
  case round =>
    obtain ⟨j, hj, rfl, hmod, hown⟩ := hrel
    have HM := Lib.hid hmod
    clear hmod
    by_cases hj0 : j < 7
    · have hlt : (j : Int) < 7 := by omega
      have hlen := Co.nodesTo_len k j
      have hst := Co.nodesTo_step k j
      have HE := Lib.hid (HH.out j hj0)
      cases hb : Co.hb k j
      · rw [hb] at hst HE
        rw [if_neg (by simp)] at hst
        have HST := Lib.hid hst
        clear hst hb
        go_wp2_with (go_at_call 23; refine (HC.out _ _).mono ?_; rintro e w' ⟨rfl, rfl⟩; rw [HE.out])
        go_roundw
        case rel => exact ⟨j + 1, by omega, by go_num, HM.out, by rw [HST.out]; exact hown⟩
        case measure => simp [intOf]; omega
      · rw [hb] at hst HE
        rw [if_pos rfl] at hst
        have HST := Lib.hid hst
        have hge := own_ge hown
        have HG := Lib.hid hge
        clear hst hb hge
        obtain ⟨L, hL⟩ : ∃ L, L = vals (Co.nodesTo k j) := ⟨_, rfl⟩
        obtain ⟨n, hn⟩ : ∃ n, n = (Co.nodesTo k j).length := ⟨_, rfl⟩
        rw [← hL, ← hn] at hown
        rw [← hn] at hlen
        have HL := Lib.hid hL
        have HN := Lib.hid hn
        clear hL hn
        go_wp2_with (first | (go_at_call 23; refine (HC.out _ _).mono ?_; rintro e w' ⟨rfl, rfl⟩; rw [HE.out]) | (at_builtin; refine wpList_append_own _ rfl _ _ 22 rfl (w.heap.size) 3 i0 (.int .i64 0) 1 8 Try.underlying22 hi hz0 hz1 hz2 rfl (by decide) _ _ _ rfl (hown.alloc _) ⟨wr.heap.size, 0, none⟩ 1 1 [.int .i64 (j : Int)] rfl rfl (cell_one_new _ _ _) (by simp [Value.oneCell']) (by unfold maxLen; omega) (by omega) (by have := HM.out.size; simp; omega) ?_; intro v' w1 hown' hgrow hnil; clear hnil))
        go_roundw
        case rel =>
          refine ⟨j + 1, by omega, by go_num, (HM.out.alloc _).grown hgrow (fun k hk => .inr (HG.out k hk)), ?_⟩
          rw [HST.out]
          rw [HL.out, HN.out] at hown'
          simpa [vals] using hown'
        case measure => simp [intOf]; omega
    · obtain rfl : j = 7 := by omega
      go_wp2
      go_ret
      exact ⟨_, rfl, HM.out, hown⟩

theorem size_calls (m : Int) (w : World) : Calls Try.prog 24 #[.int .i64 m] w fun e w' => e = .returned (.int .i64 (Co.cnt (Co.kn m))) ∧ Mod w w' [] := by
  have nc := fun w => nodes_calls m w
  unfold Co.cnt
  generalize Co.nodesL (Co.kn m) = L at *
  have NC := Lib.hid nc
  clear nc
  go_enter Try.func24, Try.ntmps24
  go_wp2_with fail
  refine (NC.out _).mono ?_
  rintro e w1 ⟨v, rfl, hm, hown⟩
  have HM := Lib.hid hm
  clear hm
  rcases own_cell hown with ⟨rfl, h1, h2⟩ | ⟨g, cap, rfl, hg, hcap, hmx, hlen, hcell⟩
  · have H1 := Lib.hid h1
    clear h1 h2 hown
    go_wp2_with fail
    go_ret
    exact ⟨ret_int (by rw [H1.out]; rfl), HM.out⟩
  · clear hcell hown
    go_wp2_with fail
    go_ret
    exact ⟨rfl, HM.out⟩
end Go.Proofs.Ytkgedgihjmhogaa.Council
