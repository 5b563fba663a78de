/- The contract of the reference's least and most. -/
import Derived.Test.YtobifcffgkagbaaReal10
import Derived.Deep.QuietTactic
import Derived.BigQuiet
namespace Go.Proofs.Ytobifcffgkagbaa
open Go.RowKit
set_option linter.unusedSimpArgs false
set_option linter.unusedVariables false

theorem quiet_eq {P : Program} {f : FuncId} {args : Array Value} {w : World} {n : Nat} {v : Value} (h : Calls P f args (w.drewN n) fun e w' => e = .returned v ∧ w.drewN n = w') :
    Calls P f args (w.drewN n) fun e w' => e = .returned v ∧ ∃ m, w' = w.drewN m := h.mono fun e w' ⟨h1, h2⟩ => ⟨h1, n, h2.symm⟩

theorem endsR_bd (l : List Nat) (k : Nat) : (Fl.endsR l k).n ≤ k ∧ ((Fl.endsR l k).a = -1 ∧ (Fl.endsR l k).b = -1 ∨ ∃ x y : Nat, (Fl.endsR l k).a = x ∧ (Fl.endsR l k).b = y ∧ x < k ∧ y < k) := by
  obtain ⟨h1, h2, h3⟩ := Fl.tied l k
  rcases h3 with ⟨g0, g1, g2, g3, g4⟩ | ⟨g0, g1, g2, g3, g4, g5, g6⟩
  · exact ⟨by omega, .inl ⟨g1, g2⟩⟩
  · exact ⟨by omega, .inr ⟨(Fl.endsR l k).a.toNat, (Fl.endsR l k).b.toNat, by omega, by omega, by omega, by omega⟩⟩

set_option maxHeartbeats 4000000 in
set_option maxRecDepth 100000 in
theorem refends_calls (b off cap : Nat) (l : List Nat) (w : World) (hm : l.length ≤ 9223372036854775807) (hc : ∀ k, k < l.length → w.cell? ⟨b, off + k, none⟩ = some (.float .f64 (l.getD k 0))) (hw : ∀ x ∈ l, x < 18446744073709551616) :
    Calls Try.prog 29 #[.slice (some ⟨b, off, none⟩) l.length cap] w fun e w' => e = .returned (.tuple #[.int .i64 (Fl.endsR l l.length).a, .int .i64 (Fl.endsR l l.length).b, .int .i64 (Fl.endsR l l.length).n]) ∧ ∃ n, w' = w.drewN n := by
  have HC := Lib.hid hc
  have HB := Lib.hid (endsR_bd l)
  have hst0 : ∀ k, Fl.endsR l (k + 1) = Fl.nextR l k (Fl.endsR l k) := fun k => rfl
  have HST := Lib.hid hst0
  clear hst0
  have HW : Hid (∀ k, k < l.length → l.getD k 0 < 18446744073709551616) := Lib.hid (fun k hk => by
      rw [List.getD_eq_getElem?_getD, List.getElem?_eq_getElem (by omega)]
      exact hw _ (List.getElem_mem (by omega)))
  clear hc hw
  generalize hlen : l.length = len at *
  clear hlen
  go_enter Try.func29, Try.ntmps29
  go_wp2_with fail
  go_loopw [5, 6, 7, 8] (fun va vb vn vi wr => ∃ k : Nat, k ≤ len ∧ vi = .int .i64 k ∧ va = .int .i64 (Fl.endsR l k).a ∧ vb = .int .i64 (Fl.endsR l k).b ∧ vn = .int .i64 (Fl.endsR l k).n ∧ ∃ n, wr = w.drewN n) (fun _ _ _ vi _ => len - (intOf vi).toNat)
  case atStart => exact ⟨0, by omega, rfl, rfl, rfl, rfl, 0, rfl⟩
  case round =>
    obtain ⟨k, hk, rfl, rfl, rfl, rfl, n0, hwr⟩ := hrel
    have HCW : Hid (∀ k, k < len → wr.cell? ⟨b, off + k, none⟩ = some (.float .f64 (l.getD k 0))) := Lib.hid (by subst hwr; exact fun k hk => HC.out k hk)
    have HWR := Lib.hid hwr
    clear hwr
    have hbd := HB.out k
    by_cases hlt : k < len
    · have hcell := HCW.out k hlt
      have hst := HST.out k
      have hf := HW.out k hlt
      generalize hs : Fl.endsR l k = s at *
      obtain ⟨x, y, n⟩ := s
      simp only at hbd
      obtain ⟨hn, hxy⟩ := hbd
      have HS := Lib.hid hs
      have hk' : (k : Int) < len := by omega
      have hn' : (n : Int) ≤ k := by omega
      clear hs
      have hnc := fun w => nan_calls (l.getD k 0) w
      have NC := Lib.hid hnc
      clear hnc
      unfold Fl.nextR at hst
      cases hnan : Fl.nanB (l.getD k 0)
      · rw [hnan] at hst
        simp only [Bool.false_eq_true, if_false] at hst
        have rk := fun w => refrank_calls (l.getD k 0) hf w
        have RK := Lib.hid rk
        rw [hnan] at NC
        clear rk
        rcases hxy with ⟨rfl, rfl⟩ | ⟨X, Y, rfl, rfl, hX, hY⟩
        · simp at hst
          have HE := Lib.hid hst
          clear hst
          go_wp2_with (first | (go_at_call 23; refine (NC.out _).mono ?_; rintro e w' ⟨rfl, rfl⟩))
          go_quiet (fail)
          go_wp2
          go_quiet (fail)
          go_wp2
          go_roundw
          case rel => exact ⟨k + 1, by omega, by go_num, by rw [HE.out], by rw [HE.out], by rw [HE.out]; go_num, (by rw [HWR.out]; simp only [World.drewN_drewN]; exact ⟨_, rfl⟩)⟩
          case measure => simp [intOf]; omega
        · have hfx := HW.out X (by omega)
          have hfy := HW.out Y (by omega)
          have cX := HCW.out X (by omega)
          have cY := HCW.out Y (by omega)
          have rx := fun w => refrank_calls (l.getD X 0) hfx w
          have ry := fun w => refrank_calls (l.getD Y 0) hfy w
          have hx0 : ¬ (X : Int) < 0 := by omega
          have hy0 : ¬ (Y : Int) < 0 := by omega
          simp only [hx0, hy0, false_or, Int.toNat_natCast] at hst
          have dX : decide ((X : Int) < 0) = false := by rw [decide_eq_false_iff_not]; exact hx0
          have dY : decide ((Y : Int) < 0) = false := by rw [decide_eq_false_iff_not]; exact hy0
          have bX : (X : Int) < len := by omega
          have bY : (Y : Int) < len := by omega
          clear hx0 hy0
          generalize l.getD X 0 = fx at *
          generalize l.getD Y 0 = fy at *
          generalize l.getD k 0 = f at *
          have RX := Lib.hid rx
          have RY := Lib.hid ry
          clear rx ry hf hfx hfy
          by_cases c1 : Fl.rankB f < Fl.rankB fx <;> by_cases c2 : Fl.rankB fy < Fl.rankB f
          all_goals
            simp only [c1, c2, if_true, if_false] at hst
            have HE := Lib.hid hst
            clear hst
            go_wp2_with (first | (go_at_call 23; refine (NC.out _).mono ?_; rintro e w' ⟨rfl, rfl⟩))
            go_quiet ((first | (go_at_call 24; ((with_reducible refine (RK.out _).mono ?_); rintro e w' ⟨rfl, rfl⟩; exact ⟨rfl, _, rfl⟩)) | (go_at_call 24; ((with_reducible refine (RX.out _).mono ?_); rintro e w' ⟨rfl, rfl⟩; exact ⟨rfl, _, rfl⟩))))
            go_wp2_with fail
            go_quiet ((first | (go_at_call 24; ((with_reducible refine (RY.out _).mono ?_); rintro e w' ⟨rfl, rfl⟩; exact ⟨rfl, _, rfl⟩)) | (go_at_call 24; ((with_reducible refine (RK.out _).mono ?_); rintro e w' ⟨rfl, rfl⟩; exact ⟨rfl, _, rfl⟩))))
            go_wp2_with fail
            go_roundw
            case rel => exact ⟨k + 1, by omega, by go_num, by rw [HE.out], by rw [HE.out], by rw [HE.out]; go_num, (by rw [HWR.out]; simp only [World.drewN_drewN]; exact ⟨_, rfl⟩)⟩
            case measure => simp [intOf]; omega
      · rw [hnan] at hst NC
        simp only [if_true] at hst
        have HE := Lib.hid hst
        clear hst
        go_wp2_with (go_at_call 23; refine (NC.out _).mono ?_; rintro e w' ⟨rfl, rfl⟩)
        go_roundw
        case rel => exact ⟨k + 1, by omega, by go_num, by rw [HE.out], by rw [HE.out], by rw [HE.out], n0, HWR.out⟩
        case measure => simp [intOf]; omega
    · obtain rfl : k = len := by omega
      go_wp2
      go_ret3
      exact ⟨ret3 rfl rfl rfl, n0, HWR.out⟩
end Go.Proofs.Ytobifcffgkagbaa
