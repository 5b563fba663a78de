/- The contracts of the reference tape's whole numbers, texts, real numbers and end. -/
import Derived.Test.YtfabmgdfapioiaaRef2
import Derived.Test.YtfabmgdfapioiaaHe
import Derived.Deep.DrawnRows
namespace Go.Proofs.Ytfabmgdfapioiaa.Bits
open Go.RowKit Mem
set_option linter.unusedSimpArgs false
set_option linter.unusedVariables false
set_option maxRecDepth 100000
attribute [local go_sem ↓] Go.wp_at_zero Go.wp_at_succ
theorem rInt_calls (s : ByteArray) (e0 : Int) (w : World) (hs : s.size ≤ 140737488355328) :
    Calls Try.prog 19 #[tapeV s e0] w fun e w' => e = .returned (.tuple #[tapeV (tS s e0) (tE s e0), .int .i64 (unfoldI (tN s e0))]) ∧ Mod w w' [] := by
  have HB0 := Lib.hid ((Blk.new w #[.string s, .int .i64 e0] 26).alloc (.cells #[.string ⟨#[]⟩, .int .i64 0] 26))
  have hb1 := Blk.new (w.alloc (.cells #[.string s, .int .i64 e0] 26)) #[.string ⟨#[]⟩, .int .i64 0] 26
  rw [World.size_alloc] at hb1
  have HB1 := Lib.hid hb1
  have HM0 := Lib.hid (((Mod.refl w []).alloc (.cells #[.string s, .int .i64 e0] 26)).alloc (.cells #[.string ⟨#[]⟩, .int .i64 0] 26))
  have NC := Lib.hid (fun w => rNum_calls s e0 w hs)
  have hlt := tN_lt s e0
  generalize tN s e0 = n at *
  generalize tS s e0 = s1 at *
  generalize tE s e0 = e1 at *
  have HU : Hid (unfoldI n = if n % 2 = 0 then ((n / 2 : Nat) : Int) else -((n / 2 : Nat) : Int) - 1) := Lib.hid rfl
  clear hb1
  by_cases h2 : n % 2 = 0
  · have HR : Hid (unfoldI n = (n : Int) / 2) := Lib.hid (by rw [HU.out, if_pos h2]; omega)
    have h2' : ((n : Int) % 2 == 0) = true := by rw [beq_iff_eq]; omega
    have hn : (n : Int) / 2 ≤ 9223372036854775807 := by omega
    clear h2
    go_enter Try.func19, Try.ntmps19
    go_wp2_with fail
    refine (NC.out _).mono ?_
    rintro e w1 ⟨rfl, hm1⟩
    have hb1 := HB1.out.mod hm1 (by simp)
    have hl1 := hb1.lt
    obtain ⟨c0, c1, c2, c3⟩ := Blk2 hb1
    have HM1 := Lib.hid (HM0.out.trans0 hm1)
    clear hm1 hb1
    go_wp2_with fail
    refine bodyPost_ret (v := .tuple #[tapeV s1 e1, .int .i64 ((n : Int) / 2)]) (by simp [results, Try.results19, go_sem, c0, c1, hl1]) rfl ⟨by rw [HR.out], ?_⟩
    exact ((HM1.out.setCell (p := ⟨w.heap.size + 1, 0, none⟩) (.inr (Nat.le_succ _)) _).setCell (p := ⟨w.heap.size + 1, 1, none⟩) (.inr (Nat.le_succ _)) _).alloc _
  · have HR : Hid (unfoldI n = -((n : Int) / 2) - 1) := Lib.hid (by rw [HU.out, if_neg h2]; omega)
    have h2' : ((n : Int) % 2 == 0) = false := by rw [beq_eq_false_iff_ne]; omega
    have hn : (n : Int) / 2 ≤ 9223372036854775807 := by omega
    clear h2
    go_enter Try.func19, Try.ntmps19
    go_wp2_with fail
    refine (NC.out _).mono ?_
    rintro e w1 ⟨rfl, hm1⟩
    have hb1 := HB1.out.mod hm1 (by simp)
    have hl1 := hb1.lt
    obtain ⟨c0, c1, c2, c3⟩ := Blk2 hb1
    have HM1 := Lib.hid (HM0.out.trans0 hm1)
    clear hm1 hb1
    go_wp2_with fail
    refine bodyPost_ret (v := .tuple #[tapeV s1 e1, .int .i64 (-((n : Int) / 2) - 1)]) (by simp [results, Try.results19, go_sem, c0, c1, hl1]) rfl ⟨by rw [HR.out], ?_⟩
    exact ((HM1.out.setCell (p := ⟨w.heap.size + 1, 0, none⟩) (.inr (Nat.le_succ _)) _).setCell (p := ⟨w.heap.size + 1, 1, none⟩) (.inr (Nat.le_succ _)) _).alloc _

theorem rEnd_calls (s : ByteArray) (e0 : Int) (w : World) :
    Calls Try.prog 9 #[tapeV s e0] w fun e w' => e = .returned (.int .i64 (endE s e0)) ∧ Mod w w' [] := by
  have HU : Hid (endE s e0 = endE s e0) := Lib.hid rfl
  unfold endE at HU
  by_cases h0 : e0 = 0
  · subst h0
    by_cases hz : s.size = 0
    · have he := isEmpty_zero s hz
      go_enter Try.func9, Try.ntmps9
      go_wp2_with fail
      go_ret
      exact ⟨ret_int (by unfold endE; simp [hz]), (Mod.refl _ _).alloc _⟩
    · have he := isEmpty_size s (by omega)
      go_enter Try.func9, Try.ntmps9
      go_wp2_with fail
      go_ret
      exact ⟨ret_int (by unfold endE; simp [hz]), (Mod.refl _ _).alloc _⟩
  · have hne : (e0 == 0) = false := by rw [beq_eq_false_iff_ne]; exact h0
    go_enter Try.func9, Try.ntmps9
    go_wp2_with fail
    go_ret
    exact ⟨ret_int (by unfold endE; simp [h0]), (Mod.refl _ _).alloc _⟩
end Go.Proofs.Ytfabmgdfapioiaa.Bits
