/- The page's example; the law AgendaNil. -/
import Derived.Test.YtceocpohdckkoaaAgA
namespace Go.Proofs.Ytceocpohdckkoaa.Ag
open Go.RowKit Mem
set_option linter.unusedSimpArgs false
set_option linter.unusedVariables false
set_option maxRecDepth 100000

theorem add_ok (w0 w : World) (g : Nat) (last : Int) (S : List It) (at' what : Int) (h : AgW w0 w g last S) (hb : 0 ≤ last ∧ last ≤ 1000000000) (hn : S.length < 4096) :
    Calls Try.prog 23 #[.pointer (some ⟨g, 0, none⟩), .int .i64 at', .int .i64 what] w fun e w' => e = .returned (.tuple #[.int .i64 (last + 1), .int .i64 0]) ∧ AgW w0 w' g (last + 1) (insI S (at', last + 1, what)) ∧ Keep w w' :=
  (add_calls w0 w g last S at' what h hb (by omega)).mono fun e w' h => by unfold AddP at h; rw [if_neg (by omega)] at h; exact h
theorem add_full (w0 w : World) (g : Nat) (last : Int) (S : List It) (at' what : Int) (h : AgW w0 w g last S) (hb : 0 ≤ last ∧ last ≤ 1000000000) (hn : S.length = 4096) :
    Calls Try.prog 23 #[.pointer (some ⟨g, 0, none⟩), .int .i64 at', .int .i64 what] w fun e w' => e = .returned (.tuple #[.int .i64 0, .int .i64 7]) ∧ AgW w0 w' g last S ∧ Keep w w' :=
  (add_calls w0 w g last S at' what h hb (by omega)).mono fun e w' h => by unfold AddP at h; rw [if_pos (by omega)] at h; exact h
theorem xa1 : insI [] (5, 0 + 1, 7) = [(5, 1, 7)] := by decide +kernel
theorem xa2 : insI [(5, 1, 7)] (3, 1 + 1, 8) = [(3, 2, 8), (5, 1, 7)] := by decide +kernel
theorem xa3 : insI [(3, 2, 8), (5, 1, 7)] (3, 2 + 1, 9) = [(3, 2, 8), (3, 3, 9), (5, 1, 7)] := by decide +kernel
theorem xa4 : dueI [(3, 2, 8), (3, 3, 9), (5, 1, 7)] 3 = [(3, 2, 8), (3, 3, 9)] := by decide +kernel
theorem xa5 : leftI [(3, 2, 8), (3, 3, 9), (5, 1, 7)] 3 = [(5, 1, 7)] := by decide +kernel

set_option maxHeartbeats 2000000 in
theorem awake_calls (w : World) : Calls Try.prog 22 #[] w fun e w' => e = .returned (.bool true) ∧ Mod w w' [] := by
  have NW := Lib.hid (new_calls w)
  have A1 := Lib.hid (fun x h => add_ok w x w.heap.size 0 [] 5 7 h (by omega) (by simp))
  have A2 := Lib.hid (fun x h => add_ok w x w.heap.size 1 [(5, 1, 7)] 3 8 h (by omega) (by simp))
  have A3 := Lib.hid (fun x h => add_ok w x w.heap.size 2 [(3, 2, 8), (5, 1, 7)] 3 9 h (by omega) (by simp))
  have DU := Lib.hid (fun x h => due_calls w x w.heap.size 3 [(3, 2, 8), (3, 3, 9), (5, 1, 7)] 3 h (by simp))
  have FC := Lib.hid (fun x h => first_cons w x w.heap.size 3 (5, 1, 7) [] h (by simp))
  rw [xa1] at A1
  rw [xa2] at A2
  rw [xa3] at A3
  unfold DueP at DU
  rw [xa4, xa5] at DU
  rw [show (0 : Int) + 1 = 1 from rfl] at A1
  rw [show (1 : Int) + 1 = 2 from rfl] at A2
  rw [show (2 : Int) + 1 = 3 from rfl] at A3
  have FC2 : Hid (∀ x, AgW w x w.heap.size 3 [(5, 1, 7)] → Calls Try.prog 41 #[.pointer (some ⟨w.heap.size, 0, none⟩)] x fun e w' => e = .returned (.tuple #[.agg #[.int .i64 5, .int .i64 1, .int .i64 7], .bool true]) ∧ Mod x w' []) := FC
  clear FC
  go_enter Try.func22, Try.ntmps22
  go_wp2_with fail
  (with_reducible refine NW.out.mono ?_)
  rintro e w1 ⟨rfl, ha, hm⟩
  have H1 := Lib.hid ha
  clear ha hm NW
  go_wp2_with fail
  (with_reducible refine (A1.out _ H1.out).mono ?_)
  rintro e w2 ⟨rfl, ha, hk⟩
  have H2 := Lib.hid ha
  clear ha hk H1 A1
  go_wp2_with fail
  (with_reducible refine (A2.out _ H2.out).mono ?_)
  rintro e w3 ⟨rfl, ha, hk⟩
  have H3 := Lib.hid ha
  clear ha hk H2 A2
  go_wp2_with fail
  (with_reducible refine (A3.out _ H3.out).mono ?_)
  rintro e w4 ⟨rfl, ha, hk⟩
  have H4 := Lib.hid ha
  clear ha hk H3 A3
  go_wp2_with fail
  (with_reducible refine (DU.out _ H4.out).mono ?_)
  rintro e w5 ⟨v, rfl, ha, hi, hk⟩
  have H5 := Lib.hid ha
  rcases hi.shape with ⟨_, h0⟩ | ⟨gb, cap, hv, _, _, _, hgl, _, h4⟩
  · cases h0
  · obtain ⟨c0, c1, c2⟩ := h4 0 (by simp)
    obtain ⟨d0, d1, d2⟩ := h4 1 (by simp)
    simp at c0 c1 c2 d0 d1 d2 hv
    subst hv
    clear ha hk H4 DU h4 hi
    go_wp2_with fail
    (with_reducible refine (FC2.out _ H5.out).mono ?_)
    rintro e w6 ⟨rfl, hm6⟩
    have H6 := Lib.hid ((H5.out.md.trans0 hm6).alloc (.cells #[.int .i64 5, .int .i64 1, .int .i64 7] 47))
    have c2' := keepC hm6 c2
    have d1' := keepC hm6 d1
    have hg6 : gb < w6.heap.size := Rw.cell_lt c2'
    clear hm6 H5 FC2 c0 c1 c2 d0 d1 d2
    go_wp2_with fail
    go_ret
    exact ⟨rfl, H6.out⟩

set_option maxHeartbeats 2000000 in
theorem agendaNil_calls (x : Int) (hx : (Lit.int .i64 x).wf = true) (w : World) :
    Calls Try.prog 13 #[.int .i64 x] w fun e w' => e = .returned (.bool true) ∧ Below w.heap.size w w' := by
  have AW := Lib.hid awake_calls
  have AN := Lib.hid (fun w => add_nil x x w)
  have FN : Hid (∀ w, Calls Try.prog 41 #[.pointer none] w fun e w' => e = .returned (.tuple #[.agg #[.int .i64 0, .int .i64 0, .int .i64 0], .bool false]) ∧ Mod w w' []) := Lib.hid first_nilp
  have DN := Lib.hid (fun w => drop_nil x w)
  have UN := Lib.hid (fun w => due_nil x w)
  have LN := Lib.hid all_nil
  have EN := Lib.hid alen_nil
  clear hx
  go_enter Try.func13, Try.ntmps13
  go_wp2_with fail
  (with_reducible refine (AN.out _).mono ?_)
  rintro e w1 ⟨rfl, rfl⟩
  go_wp2_with fail
  (with_reducible refine (FN.out _).mono ?_)
  rintro e w1 ⟨rfl, hm⟩
  have HM1 := Lib.hid (hm.alloc (.cells #[.int .i64 0, .int .i64 0, .int .i64 0] 47))
  clear hm
  go_wp2_with fail
  (with_reducible refine (AW.out _).mono ?_)
  rintro e w2 ⟨rfl, hm⟩
  have HM2 := Lib.hid (HM1.out.trans0 hm)
  clear hm HM1
  go_wp2_with fail
  (with_reducible refine (DN.out _).mono ?_)
  rintro e w3 ⟨rfl, hm⟩
  have HM3 := Lib.hid (HM2.out.trans0 hm)
  clear hm HM2
  go_wp2_with fail
  (with_reducible refine (UN.out _).mono ?_)
  rintro e w4 ⟨rfl, hm⟩
  have HM4 := Lib.hid (HM3.out.trans0 hm)
  clear hm HM3
  go_wp2_with fail
  (with_reducible refine (LN.out _).mono ?_)
  rintro e w5 ⟨rfl, rfl⟩
  go_wp2_with fail
  (with_reducible refine (EN.out _).mono ?_)
  rintro e w5 ⟨rfl, rfl⟩
  go_wp2_with fail
  go_ret
  exact ⟨rfl, HM4.out.below0⟩
end Go.Proofs.Ytceocpohdckkoaa.Ag
