/- Tables of sessions: Clone, All. -/
import Derived.Test.YtcbafomhifdgpaaSs4
namespace Go.Proofs.Ytcbafomhifdgpaa.Ss
open Go.RowKit Mem Si
set_option linter.unusedSimpArgs false
set_option linter.unusedVariables false
set_option maxRecDepth 100000

set_option maxHeartbeats 1000000 in
theorem clone_calls (base : Nat) (v : Value) (l : List Sn) (w : World) (h : RowsAt w base v l) (hn : l.length ≤ 1000) :
    Calls Try.prog 56 #[v] w fun e w' => ∃ v', e = .returned v' ∧ Mod w w' [] ∧ RowsAt w' w.heap.size v' l := by
  obtain ⟨i0, hi0, hz0, hz1, hz2⟩ := info_parts info_sess
  have q57 : ∀ (w : World) (a : Option Addr) (n c : Nat), (binOp .eql 57 (.slice a n c) (.slice none 0 0)).run Try.prog w = .ok (.bool a.isNone) w := fun w a n c => Lib.run_eql_slice_nil w _ _ a n c 0 0 Try.underlying57
  rcases h.shape with ⟨rfl, rfl⟩ | ⟨g, cap, hv, h1, h2, h3, h4⟩
  · go_enter Try.func56, Try.ntmps56
    go_wp2_with fail
    go_ret
    exact ⟨_, rfl, Mod.refl _ _, World.ownsRow_nil _ _ _ _⟩
  · have hgl := Rw.own_lt h g (by rw [hv]; rfl)
    have hcl : ∀ j u, (rowsC l)[j]? = some u → (w.alloc (.cells #[] 107)).cell? ((⟨g, 0, none⟩ : Addr).add j) = some u := fun j u hj => by
      rw [Addr.add_lit, Nat.zero_add]
      have := World.ownsRow.cells h (g := g) (by rw [hv]; rfl) j u hj
      rw [Addr.add_lit, Nat.zero_add] at this
      rw [← this]
      exact World.cell?_of_block (a := ⟨g, j, none⟩) (Below.heap_alloc w _ g hgl)
    have hown := World.ownsRow_made (base := w.heap.size) (e := 107) (size := 2) w #[] 0 (Nat.le_refl _) (by unfold maxLen; omega) rfl
    have HO := Lib.hid hown
    have HC := Lib.hid hcl
    have hrl := rowsC_len l
    have hro := rowsC_one l
    subst hv
    clear h h4 hcl hown
    generalize hx : rowsC l = xs at *
    go_enter Try.func56, Try.ntmps56
    go_wp2_with (at_builtin; refine wpList_append_own _ rfl _ _ 57 rfl w.heap.size 107 i0 _ 2 16 Try.underlying57 hi0 hz0 hz1 hz2 rfl (by decide) _ _ _ rfl HO.out ⟨g, 0, none⟩ l.length cap xs rfl hrl HC.out hro (by unfold maxLen; omega) (by omega) (by simp) ?_; intro v' w1 hown' hgrow hnil; clear hnil; have HO1 := Lib.hid hown'; have HG1 := Lib.hid hgrow; clear hown' hgrow)
    go_ret
    refine ⟨v', rfl, ((Mod.refl w []).alloc _).grown HG1.out (fun k hk => .inr (Nat.le_of_eq (Option.some.inj hk))), ?_⟩
    have h := HO1.out
    rw [Nat.zero_add, List.nil_append, ← hx] at h
    exact h

theorem all_calls (t : Nat) (v : Value) (l : List Sn) (w : World) (h : TabAt w t v l) (hn : l.length ≤ 1000) :
    Calls Try.prog 27 #[.pointer (some ⟨t, 0, none⟩)] w fun e w' => ∃ v', e = .returned v' ∧ Mod w w' [] ∧ RowsAt w' w.heap.size v' l := by
  have C := Lib.hid (clone_calls (t + 1) v l w h.2 hn)
  have c0 := h.1.cell 0
  obtain ⟨a, c, rfl⟩ := Rw.own_slice h.2
  clear h
  go_enter Try.func27, Try.ntmps27
  go_wp2_with fail
  (with_reducible refine (C.out).mono ?_)
  rintro e w1 ⟨v', rfl, hm1, hr1⟩
  have HM1 := Lib.hid hm1
  have HR1 := Lib.hid hr1
  clear hm1 hr1
  obtain ⟨a', c', rfl⟩ := Rw.own_slice HR1.out
  go_wp2_with fail
  go_ret
  exact ⟨_, rfl, HM1.out, HR1.out⟩
theorem all_nil (w : World) : Calls Try.prog 27 #[.pointer none] w fun e w' => e = .returned (.slice none 0 0) ∧ w = w' := by
  go_enter Try.func27, Try.ntmps27
  go_wp2
  go_ret
  exact ⟨rfl, rfl⟩
theorem may_nil (id seq : Int) (w : World) : Calls Try.prog 29 #[.pointer none, .int .i64 id, .int .i64 seq] w fun e w' => e = .returned (.tuple #[.bool false, .int .i64 1]) ∧ w = w' := by
  go_enter Try.func29, Try.ntmps29
  go_wp2
  go_ret2
  exact ⟨rfl, rfl⟩
theorem take_nil (id seq : Int) (w : World) : Calls Try.prog 23 #[.pointer none, .int .i64 id, .int .i64 seq] w fun e w' => e = .returned (.tuple #[.bool false, .int .i64 1]) ∧ w = w' := by
  have M := Lib.hid (fun w => may_nil id seq w)
  go_enter Try.func23, Try.ntmps23
  go_wp2_with fail
  (with_reducible refine (M.out _).mono ?_)
  rintro e w1 ⟨rfl, rfl⟩
  go_wp2_with fail
  go_ret2
  exact ⟨rfl, rfl⟩
theorem open_nil (id : Int) (w : World) : Calls Try.prog 22 #[.pointer none, .int .i64 id] w fun e w' => e = .returned (.int .i64 1) ∧ w = w' := by
  go_enter Try.func22, Try.ntmps22
  go_wp2
  go_ret
  exact ⟨rfl, rfl⟩
theorem close_nil (id : Int) (w : World) : Calls Try.prog 28 #[.pointer none, .int .i64 id] w fun e w' => e = .returned (.int .i64 1) ∧ w = w' := by
  go_enter Try.func28, Try.ntmps28
  go_wp2
  go_ret
  exact ⟨rfl, rfl⟩
end Go.Proofs.Ytcbafomhifdgpaa.Ss
