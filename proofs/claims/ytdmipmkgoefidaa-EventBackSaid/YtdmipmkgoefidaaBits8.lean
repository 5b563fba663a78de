/- The contracts of the reference's real numbers, and of a tape's. -/
import Derived.Test.YtdmipmkgoefidaaBits7
namespace Go.Proofs.Ytdmipmkgoefidaa.Bits
open Go.RowKit Mem
set_option linter.unusedSimpArgs false
set_option linter.unusedVariables false
set_option maxRecDepth 100000

theorem refbits_calls (f : Nat) (w : World) :
    Calls Try.prog 40 #[.float .f64 f] w fun e w' => e = .returned (.int .u64 (canB f)) ∧ w = w' := by
  unfold canB
  cases hn : Fl.nanB f
  all_goals
    go_enter Try.func40, Try.ntmps40
    go_wp2
    go_ret
    exact ⟨rfl, rfl⟩

theorem refreal_calls (f : Nat) (hf : f < 18446744073709551616) (w : World) :
    Calls Try.prog 36 #[.float .f64 f] w fun e w' => e = .returned (.string (realS f)) ∧ Mod w w' [] := by
  unfold realS
  have hx := canB_lt f hf
  have bc := fun w => refbits_calls f w
  generalize canB f = x at *
  have BC := Lib.hid bc
  clear bc
  have hS : Hid (∀ W g cap, (∀ i (hi : i < ((Bt.be 8 x).map (Value.int .u8)).length), W.cell? ⟨g, i, none⟩ = some ((Bt.be 8 x).map (Value.int .u8))[i]) → (convert 91 9 (.slice (some ⟨g, 0, none⟩) 8 cap)).run Try.prog W = .ok (.string (strOfNums (Bt.be 8 x))) W) := Lib.hid (fun W g cap hc =>
    run_convert_bytes_arg W 91 5 (by kernel_rfl) (by kernel_rfl) _ 0 8 cap (Bt.be 8 x) (Bt.be_length 8 x) (fun i hi => by
      have hl : i < (Bt.be 8 x).length := by rw [Bt.be_length]; exact hi
      rw [Nat.zero_add, hc i (by simpa using hl), List.getElem_map, List.getD_eq_getElem?_getD, List.getElem?_eq_getElem hl]; rfl) _ (by kernel_rfl))
  obtain ⟨T, hT⟩ : ∃ T, T = strOfNums (Bt.be 8 x) := ⟨_, rfl⟩
  rw [← hT] at hS ⊢
  clear hT
  go_enter Try.func36, Try.ntmps36
  go_wp2_with fail
  go_loopw [3, 4] (fun vb vi wr => ∃ j : Nat, j ≤ 8 ∧ vi = .int .i64 ((j : Int) - 1) ∧ Mod w wr [] ∧ wr.ownsRow w.heap.size 5 1 vb (8 - j) (((Bt.be 8 x).take (8 - j)).map (Value.int .u8))) (fun _ vi _ => (intOf vi + 1).toNat)
  case atStart => exact ⟨8, by omega, rfl, Mod.refl _ _, rfl, .inl ⟨rfl, rfl⟩⟩
  case round =>
    obtain ⟨j, hj, rfl, hmod, hown⟩ := hrel
    have HM := Lib.hid hmod
    clear hmod
    by_cases hj0 : 0 < j
    · obtain ⟨i, rfl⟩ : ∃ i, j = i + 1 := ⟨j - 1, by omega⟩
      rw [show ((i + 1 : Nat) : Int) - 1 = (i : Int) by omega] at *
      have hlen : 8 - (i + 1) + 1 ≤ 8 := by omega
      have hi8 : (i : Int) ≤ 7 := by omega
      have HX : Hid ((x : Int) / 2 ^ (8 * i) % 256 = ((x / 256 ^ i % 256 : Nat) : Int)) := Lib.hid (by rw [pow_cast, Int.natCast_emod]; rfl)
      obtain ⟨i0, hi, hz0, hz1, hz2⟩ := info_parts info_u8
      have hge := own_ge hown
      have HG := Lib.hid hge
      clear hge
      obtain ⟨L, hL⟩ : ∃ L, L = ((Bt.be 8 x).take (8 - (i + 1))).map (Value.int .u8) := ⟨_, rfl⟩
      rw [← hL] at hown
      have HL := Lib.hid hL
      clear hL
      go_wp2_with (first | (go_at_call 40; refine (BC.out _).mono ?_; rintro e w' ⟨rfl, rfl⟩) | (at_builtin; refine wpList_append_own _ rfl _ _ 91 rfl (w.heap.size) 5 i0 (.int .u8 0) 1 1 Try.underlying91 hi hz0 hz1 hz2 rfl (by decide) _ _ _ rfl (hown.alloc _) ⟨wr.heap.size, 0, none⟩ 1 1 [.int .u8 ((x : Int) / 2 ^ (8 * i) % 256)] rfl rfl (cell_one_new _ _ _) (by simp [Value.oneCell']) (by unfold maxLen; omega) (by omega) (by have := HM.out.size; simp; omega) ?_; intro v' w1 hown' hgrow hnil; clear hnil))
      go_roundw
      case rel =>
        refine ⟨i, by omega, rfl, (HM.out.alloc _).grown hgrow (fun k hk => .inr (HG.out k hk)), ?_⟩
        rw [HX.out, HL.out] at hown'
        rw [show 8 - i = 8 - (i + 1) + 1 by omega, be_take_step 8 x (8 - (i + 1)) (by omega), show 8 - 1 - (8 - (i + 1)) = i by omega]
        simpa using hown'
      case measure => simp [intOf]
    · obtain rfl : j = 0 := by omega
      obtain ⟨g, cap, rfl, hg, hcap, hmx, hlen, hcell⟩ := (own_cell hown).resolve_left (by simp)
      have hconv := hS.out wr g cap hcell
      clear hcell hown hlen
      rw [show ((0 : Nat) : Int) - 1 = -1 by omega]
      go_wp2
      go_ret
      exact ⟨rfl, HM.out⟩

def realR (s : ByteArray) (e : Int) : Nat × ByteArray × Int :=
  if e ≠ 0 then (0, s, e) else if s.size < 8 then (0, s, 5)
  else if Fl.nanB (Bt.val (Bt.bytesOf s 0 8) 0) = true ∧ Bt.val (Bt.bytesOf s 0 8) 0 ≠ 9221120237041090561 then (0, s, 3)
  else (Bt.val (Bt.bytesOf s 0 8) 0, s.extract 8 s.size, 0)
end Go.Proofs.Ytdmipmkgoefidaa.Bits
