/- Books: Clone of a row, Base, End, drop, New. -/
import Derived.Test.YtceocpohdckkoaaBx2
namespace Go.Proofs.Ytceocpohdckkoaa.Bx
open Go.RowKit Mem
set_option linter.unusedSimpArgs false
set_option linter.unusedVariables false
set_option maxRecDepth 100000

theorem info_int : (Try.prog.info? 3).map (fun i => (i.zero, i.size, i.bytes)) = some (some (.int .i64 0), 1, 8) := by kernel_rfl
theorem info_match : (Try.prog.info? 32).map (fun i => (i.zero, i.size, i.bytes)) = some (some (.agg #[.slice none 0 0]), 1, 24) := by kernel_rfl

/-- A row of numbers that is new: it lies at or beyond D. -/
def Fresh (D : Nat) (A : World) (u : Value) (xs : List Int) : Prop := xs ≠ [] ∧ ∃ b cap, u = slV b xs.length cap ∧ A.ownsRow D tI 1 u xs.length (xs.map iv)
theorem Fresh.row {D : Nat} {A : World} {u : Value} {xs : List Int} (h : Fresh D A u xs) {X : Nat → Prop} (hX : ∀ k, X k → k < D) : RowAt A X u xs := by
  obtain ⟨hne, b, cap, h1, h2⟩ := h
  refine ⟨b, cap, h1, fun hx => ?_, hne, h2.1, h2.2.imp id (fun ⟨g, c, cur, q1, q2, q3⟩ => ⟨g, c, cur, q1, Nat.zero_le _, q3⟩)⟩
  have := own_ge h2 b (by rw [h1]; rfl)
  have := hX b hx
  omega
theorem Fresh.kept {D : Nat} {A B : World} {u : Value} {xs : List Int} (h : Fresh D A u xs) (k : Kept A B) : Fresh D B u xs := by
  obtain ⟨hne, b, cap, h1, h2⟩ := h
  exact ⟨hne, b, cap, h1, k.own h2⟩
theorem Fresh.mono {D E : Nat} {A : World} {u : Value} {xs : List Int} (h : Fresh D A u xs) (hE : E ≤ D) : Fresh E A u xs := by
  obtain ⟨hne, b, cap, h1, h2⟩ := h
  exact ⟨hne, b, cap, h1, h2.1, h2.2.imp id (fun ⟨g, c, cur, q1, q2, q3⟩ => ⟨g, c, cur, q1, Nat.le_trans hE q2, q3⟩)⟩

theorem clone_calls (xs : List Int) (u : Value) (w : World) (h : IntsC w u xs) (hn : xs.length ≤ 1000000) (hne : xs ≠ []) :
    Calls Try.prog 43 #[u] w fun e w' => ∃ v, e = .returned v ∧ Mod w w' [] ∧ Fresh w.heap.size w' v xs := by
  obtain ⟨i0, hi0, hz0, hz1, hz2⟩ := info_parts info_int
  have q26 : ∀ (w : World) (a : Option Addr) (n c : Nat), (binOp .eql 26 (.slice a n c) (.slice none 0 0)).run Try.prog w = .ok (.bool a.isNone) w := fun w a n c => Lib.run_eql_slice_nil w _ _ a n c 0 0 Try.underlying26
  obtain ⟨b, off, cap, rfl, hcap, hc⟩ := h
  have hpos : 0 < xs.length := List.length_pos_iff.2 hne
  have HM1 := Lib.hid ((Mod.refl w []).alloc (.cells #[] 3))
  have hcl : ∀ j u, (xs.map iv)[j]? = some u → (w.alloc (.cells #[] 3)).cell? ((⟨b, off, none⟩ : Addr).add j) = some u := fun j u hj => by
    rw [Addr.add_lit]
    rw [List.getElem?_map] at hj
    obtain ⟨x, hx, rfl⟩ := Option.map_eq_some_iff.1 hj
    obtain ⟨hlt, he⟩ := List.getElem?_eq_some_iff.1 hx
    rw [← he, gi_eq hlt]
    exact (Kept.mod HM1.out).cell (hc j hlt)
  have hown := World.ownsRow_made (base := w.heap.size) (e := 3) (size := 1) w #[] 0 (Nat.le_refl _) (by unfold maxLen; omega) rfl
  have HO := Lib.hid hown
  have HC := Lib.hid hcl
  have hrl : (xs.map iv).length = xs.length * 1 := by simp
  have hro : ∀ u ∈ xs.map iv, u.oneCell' = true := by
    intro u hu
    obtain ⟨x, _, rfl⟩ := List.mem_map.1 hu
    rfl
  have HNE := Lib.hid hne
  clear hcl hown hc hne
  obtain ⟨ys, hys⟩ : ∃ ys, xs.map iv = ys := ⟨_, rfl⟩
  have HYS := Lib.hid hys
  rw [hys] at hrl hro HC
  clear hys
  go_enter Try.func43, Try.ntmps43
  go_wp2_with (at_builtin; refine wpList_append_own _ rfl _ _ 26 rfl w.heap.size 3 i0 _ 1 8 Try.underlying26 hi0 hz0 hz1 hz2 rfl (by decide) _ _ _ rfl HO.out ⟨b, off, none⟩ xs.length cap ys rfl hrl HC.out hro (by unfold maxLen; omega) (by omega) (by simp) ?_; intro v' w1 hown' hgrow hnil; have HO1 := Lib.hid hown'; have HG1 := Lib.hid hgrow; clear hown' hgrow hnil)
  go_ret
  refine ⟨v', rfl, HM1.out.grown HG1.out (fun k hk => .inr (Nat.le_of_eq (Option.some.inj hk))), HNE.out, ?_⟩
  have h := HO1.out
  rw [Nat.zero_add, List.nil_append, ← HYS.out] at h
  rcases own_cell h with ⟨_, h0, _⟩ | ⟨g, c, hv, _⟩
  · omega
  · exact ⟨g, c, hv, h⟩

theorem base_calls {w : World} {N : Nat} {X : Nat → Prop} {g : Nat} {base : Int} {rows : List (List Int)} (h : BookAt w N X g base rows) :
    Calls Try.prog 19 #[.pointer (some ⟨g, 0, none⟩)] w fun e w' => e = .returned (.int .i64 base) ∧ w = w' := by
  obtain ⟨a, c, hb⟩ := h.rows
  have c0 := hb.cell 0
  clear h hb
  go_enter Try.func19, Try.ntmps19
  go_wp2
  go_ret
  exact ⟨rfl, rfl⟩
theorem end_calls {w : World} {N : Nat} {X : Nat → Prop} {g : Nat} {base : Int} {rows : List (List Int)} (h : BookAt w N X g base rows) (hb0 : -1 ≤ base) (hb1 : base ≤ 549755813888) (hn : rows.length ≤ 1000) :
    Calls Try.prog 20 #[.pointer (some ⟨g, 0, none⟩)] w fun e w' => e = .returned (.int .i64 (base + rows.length)) ∧ Mod w w' [] := by
  obtain ⟨a, c, hb⟩ := h.rows
  have c0 : w.drew.cell? ⟨g, 0, none⟩ = some (.int .i64 base) := hb.cell 0
  have c1 : w.drew.cell? ⟨g, 1, none⟩ = some (.slice a rows.length c) := hb.cell 1
  have hn' : (rows.length : Int) ≤ 1000 := by omega
  clear h hb
  go_enter Try.func20, Try.ntmps20
  go_wp2
  go_region
  all_goals (go_wp2; go_ret; exact ⟨rfl, (Mod.refl w []).drew⟩)
theorem base_nil (w : World) : Calls Try.prog 19 #[.pointer none] w fun e w' => e = .returned (.int .i64 0) ∧ w = w' := by
  go_enter Try.func19, Try.ntmps19
  go_wp2
  go_ret
  exact ⟨rfl, rfl⟩
theorem end_nil (w : World) : Calls Try.prog 20 #[.pointer none] w fun e w' => e = .returned (.int .i64 0) ∧ w = w' := by
  go_enter Try.func20, Try.ntmps20
  go_wp2
  go_ret
  exact ⟨rfl, rfl⟩
theorem new_calls (w : World) :
    Calls Try.prog 14 #[] w fun e w' => e = .returned (.pointer (some ⟨w.heap.size, 0, none⟩)) ∧ Mod w w' [] ∧ BookAt w' w.heap.size (fun _ => False) w.heap.size 0 [] := by
  go_enter Try.func14, Try.ntmps14
  go_wp2
  go_ret
  exact ⟨rfl, (Mod.refl _ _).alloc _, Nat.le_refl _, .slice none 0 0, [], Blk.new _ _ _, .inl (World.ownsRow_nil _ _ _ _), .nil⟩
end Go.Proofs.Ytceocpohdckkoaa.Bx
