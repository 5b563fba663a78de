/- The law on the least and the most. -/
import Derived.Test.YtobifcffgkagbaaReal11
namespace Go.Proofs.Ytobifcffgkagbaa
open Go.RowKit
set_option linter.unusedSimpArgs false
set_option linter.unusedVariables false

theorem ends0_calls (a : Option Addr) (cap : Nat) (w : World) :
    Calls Try.prog 28 #[.slice a 0 cap] w fun e w' => e = .returned (.tuple #[.float .f64 0, .float .f64 0, .int .i64 0]) ∧ w = w' := by
  go_enter Try.func28, Try.ntmps28
  go_wp2_with fail
  go_loop [2, 3, 4, 9] (fun vx vy vn vi => vx = .float .f64 0 ∧ vy = .float .f64 0 ∧ vn = .int .i64 0 ∧ vi = .int .i64 0) (fun _ _ _ _ => 0)
  case atStart => exact ⟨rfl, rfl, rfl, rfl⟩
  case round =>
    obtain ⟨rfl, rfl, rfl, rfl⟩ := hrel
    go_wp2
    go_ret3
    exact ⟨ret3 rfl rfl rfl, rfl⟩

theorem refends0_calls (a : Option Addr) (cap : Nat) (w : World) :
    Calls Try.prog 29 #[.slice a 0 cap] w fun e w' => e = .returned (.tuple #[.int .i64 (-1), .int .i64 (-1), .int .i64 0]) ∧ w = w' := by
  go_enter Try.func29, Try.ntmps29
  go_wp2_with fail
  go_loop [5, 6, 7, 8] (fun vx vy vn vi => vx = .int .i64 (-1) ∧ vy = .int .i64 (-1) ∧ vn = .int .i64 0 ∧ vi = .int .i64 0) (fun _ _ _ _ => 0)
  case atStart => exact ⟨rfl, rfl, rfl, rfl⟩
  case round =>
    obtain ⟨rfl, rfl, rfl, rfl⟩ := hrel
    go_wp2
    go_ret3
    exact ⟨ret3 rfl rfl rfl, rfl⟩

theorem realEnds0_calls (a : Option Addr) (cap : Nat) (w : World) :
    Calls Try.prog 9 #[.slice a 0 cap] w fun e w' => e = .returned (.bool true) ∧ Below w.heap.size w w' := by
  go_enter Try.func9, Try.ntmps9
  go_wp2_with (first | (go_at_call 15; refine (awake_calls _).mono ?_; rintro e w' ⟨rfl, rfl⟩) | (go_at_call 28; refine (ends0_calls _ _ _).mono ?_; rintro e w' ⟨rfl, rfl⟩) | (go_at_call 29; refine (refends0_calls _ _ _).mono ?_; rintro e w' ⟨rfl, rfl⟩))
  go_ret
  exact ⟨ret_bool (by simp), Below.refl _ _⟩

set_option maxHeartbeats 1000000 in
theorem realEnds_calls (w : World) (v : Value) (h : ∃ l : List Nat, Open.Row1 w v (l.map (Value.float .f64)) ∧ ∀ x ∈ l, (Lit.float .f64 x).wf = true) :
    Calls Try.prog 9 #[v] w fun e w' => e = .returned (.bool true) ∧ Below w.heap.size w w' := by
  obtain ⟨l, ⟨a, cap, rfl, hl, hm, h0, h1, h2⟩, hw⟩ := h
  simp only [List.length_map] at hl hm h2 ⊢
  by_cases hne : l = []
  · subst hne; exact realEnds0_calls a cap w
  · obtain ⟨b, off, rfl⟩ := h1 (by simpa using hne)
    have hc : ∀ k, k < l.length → w.cell? ⟨b, off + k, none⟩ = some (.float .f64 (l.getD k 0)) := fun k hk => by
      have := h2 b off rfl k hk
      rw [this, List.getElem_map, List.getD_eq_getElem?_getD, List.getElem?_eq_getElem hk]; rfl
    have hwf : ∀ x ∈ l, x < 18446744073709551616 := fun x hx => wf_f64 (hw x hx)
    have hm' : l.length ≤ 9223372036854775807 := by unfold maxLen at hm; omega
    have ht := Fl.tied l l.length
    have ec := fun w' (hw' : ∀ a, w'.cell? a = w.cell? a) => ends_calls b off cap l w' hm' (fun k hk => by rw [hw']; exact hc k hk) hwf
    have rc := fun w' (hw' : ∀ a, w'.cell? a = w.cell? a) => refends_calls b off cap l w' hm' (fun k hk => by rw [hw']; exact hc k hk) hwf
    have EC := Lib.hid ec
    have RC := Lib.hid rc
    have HC := Lib.hid hc
    clear ec rc hc h0 h1 h2 hwf hw hl hm hne
    generalize l.length = len at *
    generalize Fl.endsS l len = s at *
    generalize Fl.endsR l len = r at *
    obtain ⟨x, y, n⟩ := s
    obtain ⟨ra, rb, rn⟩ := r
    obtain ⟨t1, t2, t3⟩ := ht
    simp only at t1 t2 t3
    subst t1
    rcases t3 with ⟨g0, g1, g2, g3, g4⟩ | ⟨g0, g1, g2, g3, g4, g5, g6⟩
    · subst g0 g1 g2 g3 g4
      go_enter Try.func9, Try.ntmps9
      go_wp2_with (first | (go_at_call 15; refine (awake_calls _).mono ?_; rintro e w' ⟨rfl, rfl⟩) | (go_at_call 28; refine (EC.out _ (fun _ => rfl)).mono ?_; rintro e w' ⟨rfl, rfl⟩) | (go_at_call 29; refine (RC.out _ (fun _ => rfl)).mono ?_; rintro e w' ⟨rfl, nd, rfl⟩))
      go_ret
      exact ⟨ret_bool (by simp), below_drewN _ _⟩
    · obtain ⟨X, rfl⟩ := Int.eq_ofNat_of_zero_le g1
      obtain ⟨Y, rfl⟩ := Int.eq_ofNat_of_zero_le g3
      simp only [Int.toNat_natCast] at g5 g6
      have cX := HC.out X (by omega)
      have cY := HC.out Y (by omega)
      rw [← g5] at cX
      rw [← g6] at cY
      have hn0 : ((n : Int) == 0) = false := by rw [beq_eq_false_iff_ne]; omega
      clear g5 g6
      go_enter Try.func9, Try.ntmps9
      go_wp2_with (first | (go_at_call 15; refine (awake_calls _).mono ?_; rintro e w' ⟨rfl, rfl⟩) | (go_at_call 28; refine (EC.out _ (fun _ => rfl)).mono ?_; rintro e w' ⟨rfl, rfl⟩) | (go_at_call 29; refine (RC.out _ (fun _ => rfl)).mono ?_; rintro e w' ⟨rfl, nd, rfl⟩))
      go_quiet ((go_at_call 15; refine (awake_calls _).mono ?_; rintro e w' ⟨rfl, rfl⟩; exact ⟨rfl, _, rfl⟩))
      go_wp2
      go_ret
      refine ⟨ret_bool (by simp), ?_⟩
      first | exact below_drewN _ _ | (simp only [World.drewN_drewN]; exact below_drewN _ _)
end Go.Proofs.Ytobifcffgkagbaa
