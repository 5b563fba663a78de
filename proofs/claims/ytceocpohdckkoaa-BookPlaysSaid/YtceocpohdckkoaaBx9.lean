/- Books: the law's example (awake). -/
import Derived.Test.YtceocpohdckkoaaBx8
namespace Go.Proofs.Ytceocpohdckkoaa.Bx
open Go.RowKit Mem
set_option linter.unusedSimpArgs false
set_option linter.unusedVariables false
set_option maxRecDepth 100000

theorem Fresh.cell {D : Nat} {A : World} {u : Value} {xs : List Int} (h : Fresh D A u xs) : ∃ b cap, u = slV b xs.length cap ∧ D ≤ b ∧ xs.length ≤ cap ∧ (∃ cs, Blk A b cs tI) ∧ ∀ i, i < xs.length → A.cell? ⟨b, i, none⟩ = some (iv (gi xs i)) := by
  obtain ⟨hne, b, cap, h1, h2⟩ := h
  rcases own_cell h2 with ⟨h, _⟩ | ⟨g, c, hv, h3, h4, _, h5, h6⟩
  · rw [h1] at h; cases h
  · have e := h1.symm.trans hv
    injection e with e1 e2 e3
    injection e1 with e1
    injection e1 with e1
    subst e1 e3
    exact ⟨b, cap, h1, h3, h4, own_blk h2 b (by rw [h1]; rfl), fun i hi => by rw [h6 i (by simpa using hi), List.getElem_map, gi_eq hi]⟩
theorem below_mod {N : Nat} {A B : World} (h : N ≤ A.heap.size) (m : Mod A B []) : Below N A B := m.below h (by simp)
theorem ints_one (w : World) (x : Int) : IntsC (w.alloc (.cells #[.int .i64 x] 3)) (.slice (some ⟨w.heap.size, 0, none⟩) 1 1) [x] :=
  ⟨w.heap.size, 0, 1, rfl, Nat.le_refl _, fun i hi => by
    obtain rfl : i = 0 := by simpa using hi
    exact (Blk.new w #[.int .i64 x] 3).cell 0⟩
def cnt (k : Nat) : List (List Int) := (List.range k).map (fun (i : Nat) => [(i : Int)])
theorem cnt_len (k : Nat) : (cnt k).length = k := by unfold cnt; simp
theorem put_small (k : Nat) (hk : k < 3) : putS 0 (cnt k) [(k : Int)] = (0, 0, cnt (k + 1)) := by
  rcases (by omega : k = 0 ∨ k = 1 ∨ k = 2) with rfl | rfl | rfl <;> decide

set_option maxHeartbeats 4000000 in
theorem awake_calls (w : World) : Calls Try.prog 15 #[] w fun e w' => e = .returned (.bool true) ∧ Mod w w' [] := by
  have NC := Lib.hid (new_calls w)
  go_enter Try.func15, Try.ntmps15
  go_wp2_with fail
  (with_reducible refine NC.out.mono ?_)
  rintro e w1 ⟨rfl, hm1, hk1⟩
  have HB1 := Lib.hid (below_mod (Nat.le_refl _) hm1)
  have HK1 := Lib.hid hk1
  clear hm1 hk1 NC
  go_wp2_with fail
  go_loopw [2] (fun vi wr => ∃ k : Nat, k ≤ 3 ∧ vi = .int .i64 (k : Int) ∧ Below w.heap.size w wr ∧ BookAt wr w.heap.size (fun _ => False) w.heap.size 0 (cnt k)) (fun vi _ => 4 - (intOf vi).toNat)
  case atStart => exact ⟨0, by omega, rfl, HB1.out, HK1.out⟩
  case round =>
    obtain ⟨k, hk3, rfl, hbl, hbk⟩ := hrel
    have HBL := Lib.hid hbl
    have HBK := Lib.hid hbk
    have hsz := hbl.size
    clear hbl hbk HB1 HK1
    by_cases hlt : k < 3
    · have hlt' : (k : Int) < 3 := by omega
      have PC0 := (put_calls (HBK.out.mod ((Mod.refl wr []).alloc (.cells #[.int .i64 (k : Int)] 3))) (.slice (some ⟨wr.heap.size, 0, none⟩) 1 1) [(k : Int)] (.inr (ints_one wr k)) (by simp) (by omega) (by omega) (by rw [cnt_len]; omega) (fun _ h => h.elim) (by simp; omega))
      rw [put_small k hlt] at PC0
      have PC : Hid (Calls Try.prog 16 #[ptr w.heap.size, .agg #[.slice (some ⟨wr.heap.size, 0, none⟩) 1 1]] (wr.alloc (.cells #[.int .i64 (k : Int)] 3)) fun e w' => e = .returned (.int .i64 0) ∧ BookAt w' w.heap.size (fun _ => False) w.heap.size 0 (cnt (k + 1)) ∧ Bw w.heap.size w.heap.size (wr.alloc (.cells #[.int .i64 (k : Int)] 3)) w') := Lib.hid PC0
      clear PC0
      go_wp2_with fail
      (with_reducible refine PC.out.mono ?_)
      rintro e w2 ⟨rfl, hk2, hw2⟩
      have HK2 := Lib.hid hk2
      have HB2 := Lib.hid ((HBL.out.trans (below_mod hsz ((Mod.refl wr []).alloc (.cells #[.int .i64 (k : Int)] 3)))).trans hw2.below)
      clear hk2 hw2 PC HBL HBK
      go_wp2_with fail
      go_roundw
      case rel => exact ⟨k + 1, by omega, by go_num, HB2.out, HK2.out⟩
      case measure => simp [intOf]; omega
    · obtain rfl : k = 3 := by omega
      have FC0 := forget_calls HBK.out 2 (by omega) (by omega) (by decide) hsz
      rw [show forgetS 0 (cnt 3) 2 = (0, 2, [[2]]) by decide] at FC0
      have FC : Hid (Calls Try.prog 17 #[ptr w.heap.size, .int .i64 2] wr fun e w' => e = .returned (.int .i64 0) ∧ BookAt w' w.heap.size (fun _ => False) w.heap.size 2 [[2]] ∧ Bw w.heap.size w.heap.size wr w') := Lib.hid FC0
      clear FC0
      go_wp2_with fail
      (with_reducible refine FC.out.mono ?_)
      rintro e w2 ⟨rfl, hk2, hw2⟩
      have HK2 := Lib.hid hk2
      have HB2 := Lib.hid (HBL.out.trans hw2.below)
      clear hk2 hw2 FC HBL HBK
      have R1 : Hid (Calls Try.prog 18 #[ptr w.heap.size, .int .i64 2, .int .i64 9] w2 fun e w' => ∃ v, e = .returned (.tuple #[v, .int .i64 3, .int .i64 0]) ∧ Mod w2 w' [] ∧ OutAt w2.heap.size w' v [[2]]) := Lib.hid (by
        have h := read_calls HK2.out 2 9 (by omega) (by omega) (by omega) (by omega) (by decide) (by decide)
        rw [show readS 2 [[2]] 2 9 = ([[2]], 3, 0) by decide] at h
        exact h)
      go_wp2_with fail
      refine R1.out.mono ?_
      rintro e w3 ⟨v3, rfl, hm3, us, ho3, hr3⟩
      have HK3 := Lib.hid (HK2.out.mod hm3)
      have HB3 := Lib.hid (HB2.out.trans (below_mod HB2.out.size hm3))
      have hs3 := hm3.size
      have hs2 := HB2.out.size
      have hl3 := all2_len hr3
      obtain ⟨u, rfl⟩ : ∃ u, us = [u] := by
        match us, hl3 with
        | [u], _ => exact ⟨u, rfl⟩
      have HF3 := Lib.hid (all2_get hr3 0 (by simp) (by simp))
      have HO3 := Lib.hid ho3
      clear hm3 hr3 R1 HB2 HK2 ho3
      have R2 : Hid (Calls Try.prog 18 #[ptr w.heap.size, .int .i64 0, .int .i64 9] w3 fun e w' => ∃ v, e = .returned (.tuple #[v, .int .i64 2, .int .i64 180]) ∧ Mod w3 w' [] ∧ OutAt w3.heap.size w' v []) := Lib.hid (by
        have h := read_calls HK3.out 0 9 (by omega) (by omega) (by omega) (by omega) (by decide) (by decide)
        rw [show readS 2 [[2]] 0 9 = ([], 2, 180) by decide] at h
        exact h)
      rcases own_cell HO3.out with ⟨_, h0, _⟩ | ⟨g3, c3, hv3, _, _, _, _, hc3⟩
      · simp at h0
      subst hv3
      have HC3 := Lib.hid (hc3 0 (by simp))
      clear hc3
      go_wp2_with fail
      refine R2.out.mono ?_
      rintro e w4 ⟨v4, rfl, hm4, us4, ho4, hr4⟩
      have HK4 := Lib.hid (HK3.out.mod hm4)
      have HB4 := Lib.hid (HB3.out.trans (below_mod HB3.out.size hm4))
      obtain ⟨fb, fc, rfl, _, hfc, _, hcell⟩ := HF3.out.cell
      have hfc' : (1 : Int) ≤ fc := by simp at hfc; omega
      have HD0 := Lib.hid ((Kept.mod hm4).cell HC3.out)
      have HD1 := Lib.hid ((Kept.mod hm4).cell (hcell 0 (by simp)))
      obtain ⟨a4, c4, hv4⟩ := Rw.own_slice ho4
      have hz4 := all2_len hr4
      obtain rfl : us4 = [] := List.eq_nil_of_length_eq_zero (by simpa using hz4)
      subst hv4
      have BC := Lib.hid (fun (_ : Unit) => base_calls HK4.out)
      have EC := Lib.hid (end_calls HK4.out (by omega) (by omega) (by decide))
      clear hm4 ho4 hr4 R2 HC3 HF3 HO3 HB3 HK3 hcell hl3 hz4
      go_wp2_with fail
      (with_reducible refine (BC.out ()).mono ?_)
      rintro e w5 ⟨rfl, rfl⟩
      go_wp2_with fail
      (with_reducible refine EC.out.mono ?_)
      rintro e w6 ⟨rfl, hm6⟩
      have d0 := (Kept.mod hm6).cell HD0.out
      have d1 := (Kept.mod hm6).cell HD1.out
      simp only [List.getElem_cons_zero] at d0 d1
      have d1' : w6.cell? ⟨fb, 0, none⟩ = some (.int .i64 2) := d1
      have HB6 := Lib.hid (HB4.out.trans (below_mod HB4.out.size hm6))
      clear d1 hm6 HD0 HD1
      go_wp2_with fail
      go_ret
      exact ⟨rfl, Mod.of_below HB6.out⟩
end Go.Proofs.Ytceocpohdckkoaa.Bx
