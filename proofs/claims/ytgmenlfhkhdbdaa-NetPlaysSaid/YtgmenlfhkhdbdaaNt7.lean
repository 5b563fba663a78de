/- Chapter 21's example. -/
import Derived.Test.YtgmenlfhkhdbdaaNt6
namespace Go.Proofs.Ytgmenlfhkhdbdaa.Nt
open Go.RowKit Mem Nm Ra
open Ag (It AgW AgT Keep insI woI dueI leftI hasI AddP ItAt soon)
set_option linter.unusedSimpArgs false
set_option linter.unusedVariables false
set_option maxRecDepth 100000

theorem SendP.ok {w0 : World} {g ag mb : Nat} {last : Int} {S : List It} {n : Nat} {M : Int → Option Ms} {C : Nat → Nat → Bool} {now : Int} {m : Ms} {delay : Int} {w : World} {e : Ending} {w' : World} (h : SendP w0 g ag mb last S n M C now m delay w e w')
    (c1 : ixB now = true) (c2 : ixB delay = true) (c3 : checkB m = true) (c4 : C m.frm.toNat m.dst.toNat = false) (c5 : S.length < 4096) : e = .returned (.tuple #[.int .i64 (last + 1), .int .i64 0]) ∧ NetW w0 w' g ag mb (last + 1) (insI S (now + delay, last + 1, 0)) (n + 1) (setM M (last + 1) m) C ∧ KpN w w' := by
  unfold SendP at h
  rw [if_pos (by rw [c1, c2, c3]; rfl), if_neg (by rw [c4]; simp), if_neg (by omega)] at h
  exact h
theorem SendP.full {w0 : World} {g ag mb : Nat} {last : Int} {S : List It} {n : Nat} {M : Int → Option Ms} {C : Nat → Nat → Bool} {now : Int} {m : Ms} {delay : Int} {w : World} {e : Ending} {w' : World} (h : SendP w0 g ag mb last S n M C now m delay w e w')
    (c1 : ixB now = true) (c2 : ixB delay = true) (c3 : checkB m = true) (c4 : C m.frm.toNat m.dst.toNat = false) (c5 : 4096 ≤ S.length) : e = .returned (.tuple #[.int .i64 0, .int .i64 7]) ∧ NetW w0 w' g ag mb last S n M C ∧ KpN w w' := by
  unfold SendP at h
  rw [if_pos (by rw [c1, c2, c3]; rfl), if_neg (by rw [c4]; simp), if_pos c5] at h
  exact h
theorem duel_calls (w0 w : World) (g ag mb : Nat) (last : Int) (S : List It) (n : Nat) (M : Int → Option Ms) (C : Nat → Nat → Bool) (h : NetW w0 w g ag mb last S n M C) (hl : 0 ≤ last ∧ last ≤ 1000000) (now : Int) {D L : List It} {k : Nat} (hD : dueI S now = D) (hL : leftI S now = L) (hk : (outM C M D).length = k) :
    Calls Try.prog 14 #[.pointer (some ⟨g, 0, none⟩), .int .i64 now] w fun e w' => ∃ a c, e = .returned (.slice a k c) ∧ NetW w0 w' g ag mb last L n (delL M D) C ∧ KpN w w' := by
  refine (due_calls w0 w g ag mb last S n M C h hl now).mono ?_
  rintro e w' ⟨vo, xs, rfl, h1, h2, h3, h4⟩
  rw [hD, hL] at h1
  rw [hD] at h4
  have hx : xs.length = k := by rw [← hk, ← h4, List.length_map]
  obtain ⟨a, c, rfl⟩ := Rw.own_slice h3.own
  rw [hx]
  exact ⟨a, c, rfl, h1, h2⟩
abbrev noC : Nat → Nat → Bool := fun _ _ => false
set_option maxHeartbeats 8000000 in
theorem awake_calls (w : World) : Calls Try.prog 11 #[] w fun e w' => e = .returned (.bool true) ∧ Mod w w' [] := by
  have NC := Lib.hid (nnew_calls w)
  have AC := Lib.hid (fun w => ask_calls 0 1 5 w)
  have hck : checkB (askM 0 1 5) = true := by rw [ask_check 0 1 5 (by omega) (by omega) (by omega)]; rfl
  have HCK := Lib.hid hck
  clear hck
  go_enter Try.func11, Try.ntmps11
  go_wp2_with fail
  (with_reducible refine (NC.out).mono ?_)
  rintro e w1 ⟨g, ag, mb, rfl, hn1, _⟩
  have HN1 := Lib.hid hn1
  clear hn1 NC
  go_wp2_with fail
  (with_reducible refine (AC.out _).mono ?_)
  rintro e w2 ⟨rfl, hm2⟩
  have HN2 := Lib.hid (HN1.out.mod hm2)
  clear hm2 HN1
  have SC := Lib.hid (asend_calls w w2 g ag mb 0 [] 0 _ _ HN2.out (by omega) (by omega) 0 0 1 5 2)
  go_wp2_with fail
  (with_reducible refine (SC.out).mono ?_)
  rintro e w3 hsp
  obtain ⟨rfl, hn3, _⟩ := hsp.ok (inB_t.2 (by omega)) (inB_t.2 (by omega)) HCK.out rfl (by simp)
  have HN3 : Hid (NetW w w3 g ag mb 1 [(2, 1, 0)] 1 (setM (fun _ => none) 1 (askM 0 1 5)) noC) := Lib.hid hn3
  clear hsp hn3 SC HN2
  have D1 := Lib.hid (duel_calls w w3 g ag mb 1 _ 1 _ _ HN3.out (by omega) 1 (D := []) (L := [(2, 1, 0)]) (k := 0) (by decide) (by decide) rfl)
  simp only [Int.zero_add]
  go_wp2_with fail
  (with_reducible refine (D1.out).mono ?_)
  rintro e w4 ⟨a4, c4, rfl, hn4, _⟩
  have HN4 : Hid (NetW w w4 g ag mb 1 [(2, 1, 0)] 1 (setM (fun _ => none) 1 (askM 0 1 5)) noC) := Lib.hid hn4
  clear hn4 D1 HN3
  have L1 := Lib.hid (nlen_calls HN4.out)
  go_wp2_with fail
  (with_reducible refine (L1.out).mono ?_)
  rintro e w4 ⟨rfl, rfl⟩
  have D2 := Lib.hid (duel_calls w _ g ag mb 1 _ 1 _ _ HN4.out (by omega) 2 (D := [(2, 1, 0)]) (L := []) (k := 1) (by decide) (by decide) rfl)
  simp only [List.length_cons, List.length_nil]
  go_wp2_with fail
  (with_reducible refine (D2.out).mono ?_)
  rintro e w5 ⟨a5, c5, rfl, hn5, _⟩
  have HN5 := Lib.hid hn5
  clear hn5 D2 HN4 L1
  have L2 := Lib.hid (nlen_calls HN5.out)
  go_wp2_with fail
  (with_reducible refine (L2.out).mono ?_)
  rintro e w6 ⟨rfl, rfl⟩
  have HM := Lib.hid HN5.out.md
  simp only [List.length_nil]
  go_wp2_with fail
  go_ret
  exact ⟨rfl, HM.out⟩
end Go.Proofs.Ytgmenlfhkhdbdaa.Nt
