/- A pile in memory: Swap, Push, Pop. -/
import Derived.Test.YtgmenlfhkhdbdaaAg2
namespace Go.Proofs.Ytgmenlfhkhdbdaa.Ag
open Go.RowKit Mem
set_option linter.unusedSimpArgs false
set_option linter.unusedVariables false
set_option maxRecDepth 100000

theorem ItAt.put3 {w : World} {base g cap n : Nat} {l : List It} (h : ItAt w base (.slice (some ⟨g, 0, none⟩) n cap) l) (hn : n = l.length) (i : Nat) (hi : i < l.length) (x : It) :
    ItAt (((w.setCell ⟨g, i * 3, none⟩ (.int .i64 x.1)).setCell ⟨g, i * 3 + 1, none⟩ (.int .i64 x.2.1)).setCell ⟨g, i * 3 + 2, none⟩ (.int .i64 x.2.2)) base (.slice (some ⟨g, 0, none⟩) n cap) (l.set i x) := by
  subst hn
  unfold ItAt at *
  rw [← rowsI_set l i hi x, List.length_set]
  exact own_set (own_set (own_set h _ _) _ _) _ _
theorem mod3 {w w' : World} {g a b c : Nat} {x y z : Value} (m : Mod w w' [g]) : Mod w (((w'.setCell ⟨g, a, none⟩ x).setCell ⟨g, b, none⟩ y).setCell ⟨g, c, none⟩ z) [g] :=
  ((m.setCell (by simp) _).setCell (by simp) _).setCell (by simp) _

theorem ItAt.cells {w : World} {base g cap n : Nat} {l : List It} (h : ItAt w base (.slice (some ⟨g, 0, none⟩) n cap) l) (i : Nat) (hi : i < l.length) :
    w.cell? ⟨g, i * 3, none⟩ = some (.int .i64 (gt l i).1) ∧ w.cell? ⟨g, i * 3 + 1, none⟩ = some (.int .i64 (gt l i).2.1) ∧ w.cell? ⟨g, i * 3 + 2, none⟩ = some (.int .i64 (gt l i).2.2) ∧
    w.frozen? ⟨g, i * 3, none⟩ = false ∧ w.frozen? ⟨g, i * 3 + 1, none⟩ = false ∧ w.frozen? ⟨g, i * 3 + 2, none⟩ = false := by
  rcases h.shape with ⟨hh, _⟩ | ⟨g', cap', hv, _, _, _, _, hf, h4⟩
  · cases hh
  · injection hv with e1 e2 e3
    injection e1 with e1
    injection e1 with e1
    subst e1
    obtain ⟨c0, c1, c2⟩ := h4 i hi
    rw [gt_eq hi]
    exact ⟨c0, c1, c2, hf _, hf _, hf _⟩
def SwC (w : World) (base g cap n : Nat) (L0 L1 L2 : List It) (m : Nat) (w' : World) : Prop := Mod w w' [g] ∧ ItAt w' base (.slice (some ⟨g, 0, none⟩) n cap) (if m = 0 then L0 else if m = 1 then L1 else L2)

set_option maxHeartbeats 2000000 in
theorem swap_calls (base : Nat) (v : Value) (l : List It) (i j : Nat) (hi : i < l.length) (hj : j < l.length) (w : World) (h : ItAt w base v l) (hn : l.length ≤ 100000) :
    Calls Try.prog 205 #[v, .int .i64 (i : Int), .int .i64 (j : Int)] w fun e w' => e = .returned (.tuple #[]) ∧ Mod w w' v.ownBlock.toList ∧ ItAt w' base v (sw l i j) := by
  rcases h.shape with ⟨_, h0⟩ | ⟨g, cap, rfl, _, _, _, hg, _, _⟩
  · rw [h0] at hi; simp at hi
  · have hi' : (i : Int) < l.length := by omega
    have hj' : (j : Int) < l.length := by omega
    have hn' : (l.length : Int) ≤ 100000 := by omega
    have HW := Lib.hid h
    have H0 := Lib.hid (fun w' (h : SwC w base g cap l.length l (l.set i (gt l j)) (sw l i j) 0 w') => And.intro (ItAt.cells (l := l) h.2 i hi) (ItAt.cells (l := l) h.2 j hj))
    have H1 : Hid (∀ w', SwC w base g cap l.length l (l.set i (gt l j)) (sw l i j) 1 w' → _) := Lib.hid (fun w' h => ItAt.cells (l := l.set i (gt l j)) h.2 j (by rw [List.length_set]; exact hj))
    have hg1 : gt (l.set i (gt l j)) j = gt l j := by
      by_cases e : i = j
      · subst e; rw [gt_eq (by rw [List.length_set]; exact hi), List.getElem_set_self]
      · rw [gt_eq (by rw [List.length_set]; exact hj), List.getElem_set_ne (by omega), gt_eq hj]
    rw [hg1] at H1
    have P0 : Hid (∀ w', SwC w base g cap l.length l (l.set i (gt l j)) (sw l i j) 0 w' → SwC w base g cap l.length l (l.set i (gt l j)) (sw l i j) 1 (((w'.setCell ⟨g, i * 3, none⟩ (.int .i64 (gt l j).1)).setCell ⟨g, i * 3 + 1, none⟩ (.int .i64 (gt l j).2.1)).setCell ⟨g, i * 3 + 2, none⟩ (.int .i64 (gt l j).2.2))) := Lib.hid (fun w' h => ⟨mod3 h.1, ItAt.put3 (l := l) h.2 rfl i hi (gt l j)⟩)
    have P1 : Hid (∀ w', SwC w base g cap l.length l (l.set i (gt l j)) (sw l i j) 1 w' → SwC w base g cap l.length l (l.set i (gt l j)) (sw l i j) 2 (((w'.setCell ⟨g, j * 3, none⟩ (.int .i64 (gt l i).1)).setCell ⟨g, j * 3 + 1, none⟩ (.int .i64 (gt l i).2.1)).setCell ⟨g, j * 3 + 2, none⟩ (.int .i64 (gt l i).2.2))) := Lib.hid (fun w' h => ⟨mod3 h.1, ItAt.put3 (l := l.set i (gt l j)) h.2 (by simp) j (by rw [List.length_set]; exact hj) (gt l i)⟩)
    have S0 : Hid (SwC w base g cap l.length l (l.set i (gt l j)) (sw l i j) 0 w.drew) := Lib.hid ⟨(Mod.refl _ _).drew, h.mod (Mod.refl w []).drew (by simp)⟩
    have S2 : Hid (∀ w', SwC w base g cap l.length l (l.set i (gt l j)) (sw l i j) 2 w' → Mod w w' [g] ∧ ItAt w' base (.slice (some ⟨g, 0, none⟩) l.length cap) (sw l i j)) := Lib.hid (fun w' h => h)
    clear h hg1
    generalize gt l i = x at *
    generalize gt l j = y at *
    obtain ⟨x1, x2, x3⟩ := x
    obtain ⟨y1, y2, y3⟩ := y
    generalize SwC w base g cap l.length l _ (sw l i j) = C at *
    go_enter Try.func205, Try.ntmps205
    go_wp2_with fail
    refine Fx.wp_region_f [13, 15] C (by kernel_rfl) (by decide) S0.out ?_
    have hS0_0 : ∀ m w', 0 ≤ m → m ≤ 0 → C m w' → (w'.cell? ⟨g, i * 3, none⟩ = some (.int .i64 x1) ∧ w'.cell? ⟨g, i * 3 + 1, none⟩ = some (.int .i64 x2) ∧ w'.cell? ⟨g, i * 3 + 2, none⟩ = some (.int .i64 x3)) ∧ (w'.cell? ⟨g, j * 3, none⟩ = some (.int .i64 y1) ∧ w'.cell? ⟨g, j * 3 + 1, none⟩ = some (.int .i64 y2) ∧ w'.cell? ⟨g, j * 3 + 2, none⟩ = some (.int .i64 y3)) := fun m w' _ hm h => by
      obtain rfl : m = 0 := by omega
      have h := H0.out w' h
      exact ⟨⟨h.1.1, h.1.2.1, h.1.2.2.1⟩, ⟨h.2.1, h.2.2.1, h.2.2.2.1⟩⟩
    have hSS : ∀ (m : Nat) w', C m w' → True := fun _ _ _ => trivial
    have hP0 : ∀ w', C 0 w' → _ := fun w' h => (H0.out w' h).1
    have hP1 : ∀ w', C 1 w' → _ := fun w' h => H1.out w' h
    refine Fx.take (i := 0) (v := ?_) _ rfl (by kernel_rfl) (by kernel_rfl) (by rfl) hSS ?_ ?_
    rotate_left
    · (intro w' hSw; (try dsimp only at hSw); go_simp; first | done | with_reducible rfl)
    try simp only [List.getElem_toArray, List.getElem_cons_succ, List.getElem_cons_zero, Act.put, List.setIfInBounds_toArray, List.set_cons_zero, List.set_cons_succ]
    refine Fx.take (i := 1) (v := ?_) _ rfl (by kernel_rfl) (by kernel_rfl) (by rfl) hSS ?_ ?_
    rotate_left
    · (intro w' hSw; (try dsimp only at hSw); go_simp; first | done | with_reducible rfl)
    try simp only [List.getElem_toArray, List.getElem_cons_succ, List.getElem_cons_zero, Act.put, List.setIfInBounds_toArray, List.set_cons_zero, List.set_cons_succ]
    refine Fx.take (i := 2) (v := ?_) _ rfl (by kernel_rfl) (by kernel_rfl) (by rfl) hSS ?_ ?_
    rotate_left
    · (intro w' hSw; (try dsimp only at hSw); go_simp; first | done | with_reducible rfl)
    try simp only [List.getElem_toArray, List.getElem_cons_succ, List.getElem_cons_zero, Act.put, List.setIfInBounds_toArray, List.set_cons_zero, List.set_cons_succ]
    refine Fx.take (i := 3) (v := ?_) _ rfl (by kernel_rfl) (by kernel_rfl) (by rfl) hSS ?_ ?_
    rotate_left
    · (intro w' hSw; (try dsimp only at hSw); go_simp; first | done | with_reducible rfl)
    try simp only [List.getElem_toArray, List.getElem_cons_succ, List.getElem_cons_zero, Act.put, List.setIfInBounds_toArray, List.set_cons_zero, List.set_cons_succ]
    refine Fx.take (i := 4) (v := ?_) _ rfl (by kernel_rfl) (by kernel_rfl) (by rfl) hSS ?_ ?_
    rotate_left
    · (intro w' hSw; (try dsimp only at hSw); go_simp; first | done | with_reducible rfl)
    try simp only [List.getElem_toArray, List.getElem_cons_succ, List.getElem_cons_zero, Act.put, List.setIfInBounds_toArray, List.set_cons_zero, List.set_cons_succ]
    refine Fx.take (i := 5) (v := ?_) _ rfl (by kernel_rfl) (by kernel_rfl) (by rfl) hSS ?_ ?_
    rotate_left
    · (intro w' hSw; (try dsimp only at hSw); go_simp; first | done | with_reducible rfl)
    try simp only [List.getElem_toArray, List.getElem_cons_succ, List.getElem_cons_zero, Act.put, List.setIfInBounds_toArray, List.set_cons_zero, List.set_cons_succ]
    refine Fx.take (i := 6) (v := ?_) _ rfl (by kernel_rfl) (by kernel_rfl) (by rfl) hSS ?_ ?_
    rotate_left
    · (intro w' hSw; (try dsimp only at hSw); go_simp; first | done | with_reducible rfl)
    try simp only [List.getElem_toArray, List.getElem_cons_succ, List.getElem_cons_zero, Act.put, List.setIfInBounds_toArray, List.set_cons_zero, List.set_cons_succ]
    refine Fx.take_at (i := 7) (v := ?_) 0 0 _ rfl (by kernel_rfl) (by kernel_rfl) (by rfl) (by kernel_rfl) (by kernel_rfl) hS0_0 ?_ ?_
    rotate_left
    · (intro w' hSw; (try dsimp only at hSw); go_simp; first | done | with_reducible rfl)
    try simp only [List.getElem_toArray, List.getElem_cons_succ, List.getElem_cons_zero, Act.put, List.setIfInBounds_toArray, List.set_cons_zero, List.set_cons_succ]
    refine Fx.take (i := 8) (v := ?_) _ rfl (by kernel_rfl) (by kernel_rfl) (by rfl) hSS ?_ ?_
    rotate_left
    · (intro w' hSw; (try dsimp only at hSw); go_simp; first | done | with_reducible rfl)
    try simp only [List.getElem_toArray, List.getElem_cons_succ, List.getElem_cons_zero, Act.put, List.setIfInBounds_toArray, List.set_cons_zero, List.set_cons_succ]
    refine Fx.take (i := 9) (v := ?_) _ rfl (by kernel_rfl) (by kernel_rfl) (by rfl) hSS ?_ ?_
    rotate_left
    · (intro w' hSw; (try dsimp only at hSw); go_simp; first | done | with_reducible rfl)
    try simp only [List.getElem_toArray, List.getElem_cons_succ, List.getElem_cons_zero, Act.put, List.setIfInBounds_toArray, List.set_cons_zero, List.set_cons_succ]
    refine Fx.take (i := 10) (v := ?_) _ rfl (by kernel_rfl) (by kernel_rfl) (by rfl) hSS ?_ ?_
    rotate_left
    · (intro w' hSw; (try dsimp only at hSw); go_simp; first | done | with_reducible rfl)
    try simp only [List.getElem_toArray, List.getElem_cons_succ, List.getElem_cons_zero, Act.put, List.setIfInBounds_toArray, List.set_cons_zero, List.set_cons_succ]
    refine Fx.take_at (i := 11) (v := ?_) 0 0 _ rfl (by kernel_rfl) (by kernel_rfl) (by rfl) (by kernel_rfl) (by kernel_rfl) hS0_0 ?_ ?_
    rotate_left
    · (intro w' hSw; (try dsimp only at hSw); go_simp; first | done | with_reducible rfl)
    try simp only [List.getElem_toArray, List.getElem_cons_succ, List.getElem_cons_zero, Act.put, List.setIfInBounds_toArray, List.set_cons_zero, List.set_cons_succ]
    refine Fx.take (i := 12) (v := ?_) _ rfl (by kernel_rfl) (by kernel_rfl) (by rfl) hSS ?_ ?_
    rotate_left
    · (intro w' hSw; (try dsimp only at hSw); go_simp; first | done | with_reducible rfl)
    try simp only [List.getElem_toArray, List.getElem_cons_succ, List.getElem_cons_zero, Act.put, List.setIfInBounds_toArray, List.set_cons_zero, List.set_cons_succ]
    refine Fx.put (i := 13) 0 ?_ rfl (by kernel_rfl) (by kernel_rfl) (by rfl) (by kernel_rfl) (by kernel_rfl) ?_ ?_ ?_
    rotate_left
    · (intro w' hC; obtain hSw := hP0 _ hC; (try dsimp only at hSw); go_simp; first | done | with_reducible rfl)
    · (exact fun w' h => P0.out w' h)
    try simp only [List.getElem_toArray, List.getElem_cons_succ, List.getElem_cons_zero, Act.put, List.setIfInBounds_toArray, List.set_cons_zero, List.set_cons_succ]
    refine Fx.take (i := 14) (v := ?_) _ rfl (by kernel_rfl) (by kernel_rfl) (by rfl) hSS ?_ ?_
    rotate_left
    · (intro w' hSw; (try dsimp only at hSw); go_simp; first | done | with_reducible rfl)
    try simp only [List.getElem_toArray, List.getElem_cons_succ, List.getElem_cons_zero, Act.put, List.setIfInBounds_toArray, List.set_cons_zero, List.set_cons_succ]
    refine Fx.put (i := 15) 1 ?_ rfl (by kernel_rfl) (by kernel_rfl) (by rfl) (by kernel_rfl) (by kernel_rfl) ?_ ?_ ?_
    rotate_left
    · (intro w' hC; obtain hSw := hP1 _ hC; (try dsimp only at hSw); go_simp; first | done | with_reducible rfl)
    · (exact fun w' h => P1.out w' h)
    try simp only [List.getElem_toArray, List.getElem_cons_succ, List.getElem_cons_zero, Act.put, List.setIfInBounds_toArray, List.set_cons_zero, List.set_cons_succ]
    refine Fx.done 2 (by kernel_rfl) (by kernel_rfl) (fun w4 hC => ?_)
    have HM4 := Lib.hid (S2.out _ hC)
    clear hC hSS hP0 hP1 hS0_0 H0 H1 P0 P1 S0 S2
    go_wp2_with fail
    go_end0
    exact ⟨rfl, HM4.out.1, HM4.out.2⟩

/-- An agenda in memory: its heap and its last ID. -/
def PlAt (w : World) (g : Nat) (v : Value) (last : Int) (l : List It) : Prop := Blk w g #[v, .int .i64 last] 154 ∧ ItAt w (g + 1) v l
theorem PlAt.mod {w w' : World} {g : Nat} {v : Value} {last : Int} {l : List It} {R : List Nat} (h : PlAt w g v last l) (m : Mod w w' R) (hg : g ∉ R) (hR : ∀ k, v.ownBlock = some k → k ∉ R) : PlAt w' g v last l := ⟨h.1.mod m hg, h.2.mod m hR⟩
theorem PlAt.own {w : World} {g : Nat} {v : Value} {last : Int} {l : List It} (h : PlAt w g v last l) : ∀ k, v.ownBlock = some k → g < k ∧ k < w.heap.size := fun k hk => ⟨by have := own_ge h.2 k hk; omega, Rw.own_lt h.2 k hk⟩
/-- What becomes of an agenda in memory. -/
def AgP (g : Nat) (v : Value) (last' : Int) (l' : List It) (w w' : World) : Prop :=
  ∃ v', PlAt w' g v' last' l' ∧ Mod w w' (g :: v.ownBlock.toList) ∧ ∀ k, v'.ownBlock = some k → v.ownBlock = some k ∨ w.heap.size ≤ k
theorem AgP.same {w w' : World} {g : Nat} {v : Value} {last : Int} {l : List It} (h : PlAt w g v last l) (m : Mod w w' []) : AgP g v last l w w' :=
  ⟨v, h.mod m (by simp) (by simp), m.weak0, fun k hk => .inl hk⟩
theorem AgP.trans {w w1 w2 : World} {g : Nat} {v v1 : Value} {last last' : Int} {l l' : List It} (h1 : PlAt w1 g v1 last l) (m1 : Mod w w1 (g :: v.ownBlock.toList)) (o1 : ∀ k, v1.ownBlock = some k → v.ownBlock = some k ∨ w.heap.size ≤ k) (h2 : AgP g v1 last' l' w1 w2) : AgP g v last' l' w w2 := by
  obtain ⟨v2, p2, m2, o2⟩ := h2
  refine ⟨v2, p2, m1.trans m2 (fun r hr => ?_), fun k hk => ?_⟩
  · rcases List.mem_cons.1 hr with rfl | hr
    · exact .inl (by simp)
    · rcases o1 r (by simpa using hr) with h | h
      · exact .inl (by simp [h])
      · exact .inr h
  · rcases o2 k hk with h | h
    · exact o1 k h
    · exact .inr (Nat.le_trans m1.size h)
theorem info_item : (Try.prog.info? 102).map (fun i => (i.zero, i.size, i.bytes)) = some (some (.agg #[.int .i64 0, .int .i64 0, .int .i64 0]), 3, 24) := by kernel_rfl

theorem as_item (v : Value) (w : World) : (Instr.typeAssert (.iface 102 v) 20 102 true).run Try.prog w = .ok (.tuple #[v, .bool true]) w := by kernel_rfl

set_option maxHeartbeats 2000000 in
theorem push_calls (g : Nat) (v : Value) (last : Int) (l : List It) (x : It) (w : World) (h : PlAt w g v last l) (hn : l.length ≤ 100000) :
    Calls Try.prog 207 #[.pointer (some ⟨g, 0, none⟩), .iface 102 (itV x)] w fun e w' => e = .returned (.tuple #[]) ∧ AgP g v last (l ++ [x]) w w' := by
  obtain ⟨i0, hi0, hz0, hz1, hz2⟩ := info_parts info_item
  obtain ⟨x1, x2, x3⟩ := x
  have HRS := Lib.hid (show rowsI (l ++ [(x1, x2, x3)]) = rowsI l ++ [.int .i64 x1, .int .i64 x2, .int .i64 x3] by rw [rowsI_append]; rfl)
  have HP := Lib.hid h
  have HB := Lib.hid (h.1.alloc (.cells #[.int .i64 x1, .int .i64 x2, .int .i64 x3] 102))
  have HX := Lib.hid (Blk.new w #[.int .i64 x1, .int .i64 x2, .int .i64 x3] 102)
  have HM := Lib.hid ((Mod.refl w (g :: v.ownBlock.toList)).alloc (.cells #[.int .i64 x1, .int .i64 x2, .int .i64 x3] 102))
  have HOW : Hid ((w.alloc (.cells #[.int .i64 x1, .int .i64 x2, .int .i64 x3] 102)).ownsRow (g + 1) 102 3 v l.length (rowsI l)) := Lib.hid (h.2.alloc _)
  have hgl := h.1.lt
  have HSZ : Hid ((w.alloc (.cells #[.int .i64 x1, .int .i64 x2, .int .i64 x3] 102)).heap.size = w.heap.size + 1) := Lib.hid (World.size_alloc _ _)
  have HG := Lib.hid h.own
  have TA := as_item
  clear h
  show Calls _ _ #[_, .iface _ (.agg #[.int .i64 x1, .int .i64 x2, .int .i64 x3])] _ _
  go_enter Try.func207, Try.ntmps207
  go_wp2_with fail
  generalize w.alloc _ = W at HB HX HM HOW HSZ ⊢
  have b0 := HB.out.cell 0
  have c0 := HX.out.cell 0
  have c1 := HX.out.cell 1
  have c2 := HX.out.cell 2
  refine He.wp_region_e 8 (fun w' => w'.cell? ⟨g, 0, none⟩ = some v ∧ w'.cell? ⟨w.heap.size, 0, none⟩ = some (.int .i64 x1) ∧ w'.cell? ⟨w.heap.size, 1, none⟩ = some (.int .i64 x2) ∧ w'.cell? ⟨w.heap.size, 2, none⟩ = some (.int .i64 x3)) (by kernel_rfl) ⟨b0, c0, c1, c2⟩ (fun hHeld => ?_)
  refine He.wpE_take (i := 0) (v := ?_) rfl (by kernel_rfl) (by kernel_rfl) (by kernel_rfl) (by kernel_rfl) (by kernel_rfl) (fun _ _ _ h => h) (by rfl) ?_ (by assumption) ?_
  rotate_left
  · (intro w' hSw; (try dsimp only at hSw); go_simp; first | done | with_reducible rfl)
  try simp only [List.getElem_toArray, List.getElem_cons_succ, List.getElem_cons_zero, Act.put, List.setIfInBounds_toArray, List.set_cons_zero, List.set_cons_succ]
  refine He.wpE_take (i := 1) (v := ?_) rfl (by kernel_rfl) (by kernel_rfl) (by kernel_rfl) (by kernel_rfl) (by kernel_rfl) (fun _ _ _ h => h) (by rfl) ?_ (by assumption) ?_
  rotate_left
  · (intro w' hSw; (try dsimp only at hSw); go_simp; first | done | with_reducible rfl)
  try simp only [List.getElem_toArray, List.getElem_cons_succ, List.getElem_cons_zero, Act.put, List.setIfInBounds_toArray, List.set_cons_zero, List.set_cons_succ]
  refine He.wpE_take (i := 2) (v := ?_) rfl (by kernel_rfl) (by kernel_rfl) (by kernel_rfl) (by kernel_rfl) (by kernel_rfl) (fun _ _ _ h => h) (by rfl) ?_ (by assumption) ?_
  rotate_left
  · (intro w' hSw; (try dsimp only at hSw); go_simp; first | done | with_reducible rfl)
  try simp only [List.getElem_toArray, List.getElem_cons_succ, List.getElem_cons_zero, Act.put, List.setIfInBounds_toArray, List.set_cons_zero, List.set_cons_succ]
  refine He.wpE_take (i := 3) (v := ?_) rfl (by kernel_rfl) (by kernel_rfl) (by kernel_rfl) (by kernel_rfl) (by kernel_rfl) (fun _ _ _ h => h) (by rfl) ?_ (by assumption) ?_
  rotate_left
  · (intro w' hSw; (try dsimp only at hSw); go_simp; first | done | with_reducible rfl)
  try simp only [List.getElem_toArray, List.getElem_cons_succ, List.getElem_cons_zero, Act.put, List.setIfInBounds_toArray, List.set_cons_zero, List.set_cons_succ]
  refine He.wpE_take (i := 4) (v := ?_) rfl (by kernel_rfl) (by kernel_rfl) (by kernel_rfl) (by kernel_rfl) (by kernel_rfl) (fun _ _ _ h => h) (by rfl) ?_ (by assumption) ?_
  rotate_left
  · (intro w' hSw; (try dsimp only at hSw); go_simp; first | done | with_reducible rfl)
  try simp only [List.getElem_toArray, List.getElem_cons_succ, List.getElem_cons_zero, Act.put, List.setIfInBounds_toArray, List.set_cons_zero, List.set_cons_succ]
  refine He.wpE_one (i := 5) (by kernel_rfl) rfl (by rfl) (fun K hK => ?_)
  go_simp
  have hk1 : ∀ p u, W.cell? p = some u → (W.drew.alloc (.cells #[.int .i64 x1, .int .i64 x2, .int .i64 x3] 102)).cell? p = some u := fun p u h => keepC (((Mod.refl W []).drew).alloc _) h
  refine hK.out _ _ (fun _ => ⟨hk1 _ _ b0, hk1 _ _ c0, hk1 _ _ c1, hk1 _ _ c2⟩) ?_
  clear hK K
  try simp only [Act.put, List.setIfInBounds_toArray, List.set_cons_zero, List.set_cons_succ]
  refine He.wpE_one (i := 6) (by kernel_rfl) rfl (by rfl) (fun K hK => ?_)
  refine wp_append_lies _ _ _ _ (by rfl) (g + 1) 102 i0 _ 3 24 Try.underlying152 hi0 hz0 hz1 hz2 rfl (by omega) v l.length (rowsI l) (by rfl) ((HOW.out.drew).alloc _)
    ⟨W.heap.size, 0, none⟩ 1 1 [.int .i64 x1, .int .i64 x2, .int .i64 x3] (by rfl) (by rfl) (World.news_of_block (cs := #[.int .i64 x1, .int .i64 x2, .int .i64 x3]) (t := 102) (fr := (0, 0)) (heap_alloc_new W.drew _)) (by simp [Value.oneCell'])
    (by omega) (by unfold maxLen; omega) (by omega) (by have := HSZ.out; simp; omega) (W.heap.size + 1) (by simp) ?_
  intro gg gcap w1 hown1 hgrow hat hlt2
  have HB1 := Lib.hid (Rw.blk_grown ((HB.out.drew).alloc (.cells #[.int .i64 x1, .int .i64 x2, .int .i64 x3] 102)) hgrow (fun e => by have := (HG.out _ e.symm).1; omega))
  have HM1 := Lib.hid (((HM.out.drew).alloc (.cells #[.int .i64 x1, .int .i64 x2, .int .i64 x3] 102)).grown hgrow (fun k hk => .inl (by simp [hk])))
  have hk2 : ∀ p u, W.cell? p = some u → some p.block ≠ v.ownBlock → w1.cell? p = some u := fun p u h hb => Rw.keepG hgrow (hk1 p u h) hb
  have hgo : some g ≠ v.ownBlock := fun e => by have := (HG.out _ e.symm).1; omega
  have hwo : some w.heap.size ≠ v.ownBlock := fun e => by have := (HG.out _ e.symm).2; omega
  have hS1 := And.intro (hk2 _ _ b0 hgo) (And.intro (hk2 _ _ c0 hwo) (And.intro (hk2 _ _ c1 hwo) (hk2 _ _ c2 hwo)))
  refine hK.out _ _ (fun _ => hS1) ?_
  clear hK K hk1 hk2
  have x41 := HB1.out.cell 0
  have xf1 := HB1.out.free 0
  try simp only [Act.put, List.setIfInBounds_toArray, List.set_cons_zero, List.set_cons_succ]
  refine He.wpE_take (i := 7) (v := ?_) rfl (by kernel_rfl) (by kernel_rfl) (by kernel_rfl) (by kernel_rfl) (by kernel_rfl) (fun _ _ _ h => h) (by rfl) ?_ (by assumption) ?_
  rotate_left
  · (intro w' hSw; (try dsimp only at hSw); go_simp; first | done | with_reducible rfl)
  try simp only [List.getElem_toArray, List.getElem_cons_succ, List.getElem_cons_zero, Act.put, List.setIfInBounds_toArray, List.set_cons_zero, List.set_cons_succ]
  refine He.wpE_one (i := 8) (by kernel_rfl) rfl (by rfl) (fun K hK => ?_)
  go_simp
  refine hK.out _ _ (fun h => absurd rfl h) ?_
  clear hK K
  refine He.wpE_done (by kernel_rfl) ?_
  try simp only [Act.put, List.setIfInBounds_toArray, List.set_cons_zero, List.set_cons_succ]
  have hms : Mod w1 (w1.setCell ⟨g, 0, none⟩ (.slice (some ⟨gg, 0, none⟩) (l.length + 1) gcap)) [g] := (Mod.refl _ _).setCell (by simp) _
  have HF : Hid (AgP g v last (l ++ [(x1, x2, x3)]) w (w1.setCell ⟨g, 0, none⟩ (.slice (some ⟨gg, 0, none⟩) (l.length + 1) gcap))) := Lib.hid (by
    refine ⟨.slice (some ⟨gg, 0, none⟩) (l.length + 1) gcap, ⟨?_, ?_⟩, HM1.out.setCell (.inl (by simp)) _, fun k hk => ?_⟩
    · have := HB1.out.set 0 (.slice (some ⟨gg, 0, none⟩) (l.length + 1) gcap)
      simpa using this
    · unfold ItAt
      rw [HRS.out, List.length_append]
      exact own_mod hown1 hms (fun j hj => by have := own_ge hown1 j hj; simp; omega)
    · simp [Value.ownBlock] at hk
      subst hk
      rcases hat with h | h
      · exact .inl h
      · right; have := HSZ.out; omega)
  clear hms hown1 hgrow hat
  go_wp2_with fail
  go_end0
  exact ⟨rfl, HF.out⟩
end Go.Proofs.Ytgmenlfhkhdbdaa.Ag
