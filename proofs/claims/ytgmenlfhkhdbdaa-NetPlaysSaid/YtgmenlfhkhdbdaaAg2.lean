/- Items in memory; sooner, Len, Less. -/
import Derived.Test.YtgmenlfhkhdbdaaAg0
import Derived.Test.YtgmenlfhkhdbdaaAg1
import Derived.Test.YtgmenlfhkhdbdaaRow
import Derived.Test.YtgmenlfhkhdbdaaFx
import Derived.Laws.StructEq
import Derived.WalkLawsBesides
import Derived.Lib.Hide
import Derived.Lib.Walk
namespace Go.Proofs.Ytgmenlfhkhdbdaa.Ag
open Go.RowKit Mem
set_option linter.unusedSimpArgs false
set_option linter.unusedVariables false
set_option maxRecDepth 100000

theorem keepC {a b : World} (m : Mod a b []) {p : Addr} {u : Value} (h : a.cell? p = some u) : b.cell? p = some u := (m.cell (Rw.cell_lt h) (by simp)).trans h
def itC (s : It) : List Value := [.int .i64 s.1, .int .i64 s.2.1, .int .i64 s.2.2]
def rowsI (l : List It) : List Value := (l.map itC).flatten
theorem rows_three (l : List It) : ∀ r ∈ l.map itC, r.length = 3 := by
  intro r hr
  simp only [List.mem_map] at hr
  obtain ⟨s, _, rfl⟩ := hr
  rfl
theorem rowsI_len (l : List It) : (rowsI l).length = l.length * 3 := by
  unfold rowsI
  rw [Rw.flat_len (n := 3) _ (rows_three l), List.length_map]
theorem rowsI_get (l : List It) (i : Nat) (hi : i < l.length) : (rowsI l)[i * 3]? = some (.int .i64 l[i].1) ∧ (rowsI l)[i * 3 + 1]? = some (.int .i64 l[i].2.1) ∧ (rowsI l)[i * 3 + 2]? = some (.int .i64 l[i].2.2) := by
  unfold rowsI
  have h := rows_three l
  have h0 := Rw.flat_get (l.map itC) i 0 h (by simpa using hi) (by omega)
  have h1 := Rw.flat_get (l.map itC) i 1 h (by simpa using hi) (by omega)
  have h2 := Rw.flat_get (l.map itC) i 2 h (by simpa using hi) (by omega)
  simp only [List.getElem_map, Nat.add_zero] at h0 h1 h2
  exact ⟨by rw [h0]; rfl, by rw [h1]; rfl, by rw [h2]; rfl⟩
theorem rowsI_one (l : List It) : ∀ u ∈ rowsI l, u.oneCell' = true := by
  intro u hu
  simp only [rowsI, List.mem_flatten, List.mem_map] at hu
  obtain ⟨r, ⟨s, _, rfl⟩, h⟩ := hu
  simp only [itC, List.mem_cons, List.not_mem_nil, or_false] at h
  rcases h with rfl | rfl | rfl <;> rfl
theorem rowsI_append (a b : List It) : rowsI (a ++ b) = rowsI a ++ rowsI b := by simp [rowsI]
theorem rowsI_take (l : List It) (i : Nat) (hi : i ≤ l.length) : (rowsI l).take (i * 3) = rowsI (l.take i) := by
  have h := rowsI_append (l.take i) (l.drop i)
  rw [List.take_append_drop] at h
  have hl := rowsI_len (l.take i)
  rw [List.length_take, Nat.min_eq_left hi] at hl
  rw [h, ← hl, List.take_left]
theorem rowsI_set (l : List It) (i : Nat) (hi : i < l.length) (x : It) : (((rowsI l).set (i * 3) (.int .i64 x.1)).set (i * 3 + 1) (.int .i64 x.2.1)).set (i * 3 + 2) (.int .i64 x.2.2) = rowsI (l.set i x) := by
  have hs := rowsI_append (l.take i) (l[i] :: l.drop (i + 1))
  rw [← List.drop_eq_getElem_cons hi, List.take_append_drop] at hs
  have hl := rowsI_len (l.take i)
  rw [List.length_take, Nat.min_eq_left (by omega)] at hl
  have e : l.set i x = l.take i ++ x :: l.drop (i + 1) := by rw [List.set_eq_take_append_cons_drop, if_pos hi]
  rw [e, rowsI_append, hs, List.drop_eq_getElem_cons hi, List.set_append_right _ _ (by omega), show i * 3 - (rowsI (l.take i)).length = 0 by omega,
    List.set_append_right _ _ (by omega), show i * 3 + 1 - (rowsI (l.take i)).length = 1 by omega, List.set_append_right _ _ (by omega), show i * 3 + 2 - (rowsI (l.take i)).length = 2 by omega]
  rfl
theorem own_set {w : World} {base : Nat} {e : TypeId} {size g cap n : Nat} {xs : List Value} (h : w.ownsRow base e size (.slice (some ⟨g, 0, none⟩) n cap) n xs) (i : Nat) (u : Value) :
    (w.setCell ⟨g, i, none⟩ u).ownsRow base e size (.slice (some ⟨g, 0, none⟩) n cap) n (xs.set i u) := by
  obtain ⟨h0, ⟨h1, _⟩ | ⟨g', cap', cur, h1, hg, hb, h2, h3, h4, h5⟩⟩ := h
  · cases h1
  · injection h1 with e1 e2 e3
    injection e1 with e1
    injection e1 with e1
    subst e1 e3
    have hb' : Blk w g cur e := hb
    refine ⟨by rw [List.length_set]; exact h0, .inr ⟨g, cap, cur.setIfInBounds i u, rfl, hg, hb'.set i u, h2, h3, by simpa using h4, ?_⟩⟩
    subst h5
    rw [Array.toList_setIfInBounds, List.take_set]
theorem own_blk {w : World} {base : Nat} {e : TypeId} {size : Nat} {v : Value} {n : Nat} {xs : List Value} (h : w.ownsRow base e size v n xs) : ∀ k, v.ownBlock = some k → ∃ cur, Blk w k cur e := by
  intro k hk
  obtain ⟨_, ⟨e, _⟩ | ⟨g, cap, cur, e, _, hc, _⟩⟩ := h
  · rw [e] at hk; cases hk
  · have : k = g := by rw [e] at hk; simpa [Value.ownBlock] using hk.symm
    subst this
    exact ⟨cur, hc⟩

/-- A row of items in memory. -/
def ItAt (w : World) (base : Nat) (v : Value) (l : List It) : Prop := w.ownsRow base 102 3 v l.length (rowsI l)
theorem ItAt.mod {w w' : World} {base : Nat} {v : Value} {l : List It} {R : List Nat} (h : ItAt w base v l) (m : Mod w w' R) (hR : ∀ k, v.ownBlock = some k → k ∉ R) : ItAt w' base v l := own_mod h m hR
theorem ItAt.shape {w : World} {base : Nat} {v : Value} {l : List It} (h : ItAt w base v l) :
    (v = .slice none 0 0 ∧ l = []) ∨ ∃ g cap, v = .slice (some ⟨g, 0, none⟩) l.length cap ∧ base ≤ g ∧ l.length ≤ cap ∧ cap ≤ maxLen ∧ g < w.heap.size ∧
      (∀ k, w.frozen? ⟨g, k, none⟩ = false) ∧
      ∀ i (hi : i < l.length), w.cell? ⟨g, i * 3, none⟩ = some (.int .i64 l[i].1) ∧ w.cell? ⟨g, i * 3 + 1, none⟩ = some (.int .i64 l[i].2.1) ∧ w.cell? ⟨g, i * 3 + 2, none⟩ = some (.int .i64 l[i].2.2) := by
  rcases Rw.own_cellN h with ⟨h1, h2, _⟩ | ⟨g, cap, h1, h2, h3, h4, h5, h6⟩
  · exact .inl ⟨h1, List.eq_nil_of_length_eq_zero h2⟩
  · obtain ⟨cur, hb⟩ := own_blk h g (by rw [h1]; rfl)
    refine .inr ⟨g, cap, h1, h2, h3, h4, hb.lt, fun k => hb.free k, fun i hi => ?_⟩
    obtain ⟨e0, e1, e2⟩ := rowsI_get l i hi
    obtain ⟨q0, q0'⟩ := List.getElem?_eq_some_iff.1 e0
    obtain ⟨q1, q1'⟩ := List.getElem?_eq_some_iff.1 e1
    obtain ⟨q2, q2'⟩ := List.getElem?_eq_some_iff.1 e2
    exact ⟨by rw [h6 _ q0, q0'], by rw [h6 _ q1, q1'], by rw [h6 _ q2, q2']⟩
def itV (x : It) : Value := .agg #[.int .i64 x.1, .int .i64 x.2.1, .int .i64 x.2.2]

def cmpI (a b : It) : Int := if soon a b = true then -1 else if a = b then 0 else 1
theorem int_ret {a b : Int} (h : a = b) : Ending.returned (.int .i64 a) = Ending.returned (.int .i64 b) := by rw [h]
theorem bool_ret {a b : Bool} (h : a = b) : Ending.returned (.bool a) = Ending.returned (.bool b) := by rw [h]

set_option maxHeartbeats 1000000 in
theorem sooner_calls (a b : It) (w : World) : Calls Try.prog 130 #[itV a, itV b] w fun e w' => e = .returned (.int .i64 (cmpI a b)) ∧ Mod w w' [] := by
  have HS := Lib.hid (@soon_iff a b)
  have HC : Hid (cmpI a b = if soon a b = true then -1 else if a = b then 0 else 1) := Lib.hid rfl
  obtain ⟨a1, a2, a3⟩ := a
  obtain ⟨b1, b2, b3⟩ := b
  have HM := Lib.hid (((Mod.refl w []).alloc (.cells #[.int .i64 a1, .int .i64 a2, .int .i64 a3] 102)).alloc (.cells #[.int .i64 b1, .int .i64 b2, .int .i64 b3] 102))
  show Calls _ _ #[.agg #[.int .i64 a1, .int .i64 a2, .int .i64 a3], .agg #[.int .i64 b1, .int .i64 b2, .int .i64 b3]] _ _
  by_cases h1 : a1 < b1
  · have hr := Lib.hid (show (-1 : Int) = cmpI (a1, a2, a3) (b1, b2, b3) by rw [HC.out, if_pos (HS.out.2 (.inl h1))])
    clear HS HC
    go_enter Try.func130, Try.ntmps130
    go_wp2_with fail
    go_ret
    exact ⟨int_ret hr.out, HM.out⟩
  · have h1' : b1 ≤ a1 := by omega
    by_cases h2 : a1 = b1
    · subst h2
      by_cases h3 : a2 < b2
      · have hr := Lib.hid (show (-1 : Int) = cmpI (a1, a2, a3) (a1, b2, b3) by rw [HC.out, if_pos (HS.out.2 (.inr ⟨rfl, h3⟩))])
        clear HS HC h1 h1'
        go_enter Try.func130, Try.ntmps130
        go_wp2_with fail
        go_ret
        exact ⟨int_ret hr.out, HM.out⟩
      · have h3' : b2 ≤ a2 := by omega
        have hns : ¬ soon (a1, a2, a3) (a1, b2, b3) = true := by rw [HS.out]; simp; omega
        by_cases h4 : a2 = b2
        · subst h4
          by_cases h5 : a3 = b3
          · subst h5
            have hr := Lib.hid (show (0 : Int) = cmpI (a1, a2, a3) (a1, a2, a3) by rw [HC.out, if_neg hns, if_pos rfl])
            clear HS HC h1 h1' h3 h3' hns
            go_enter Try.func130, Try.ntmps130
            go_wp2_with fail
            go_ret
            exact ⟨int_ret hr.out, HM.out⟩
          · have hr := Lib.hid (show (1 : Int) = cmpI (a1, a2, a3) (a1, a2, b3) by rw [HC.out, if_neg hns, if_neg (by simp; omega)])
            clear HS HC h1 h1' h3 h3' hns
            go_enter Try.func130, Try.ntmps130
            go_wp2_with fail
            go_ret
            exact ⟨int_ret hr.out, HM.out⟩
        · have hr := Lib.hid (show (1 : Int) = cmpI (a1, a2, a3) (a1, b2, b3) by rw [HC.out, if_neg hns, if_neg (by simp; omega)])
          clear HS HC h1 h1' h3 hns
          go_enter Try.func130, Try.ntmps130
          go_wp2_with fail
          go_ret
          exact ⟨int_ret hr.out, HM.out⟩
    · have hns : ¬ soon (a1, a2, a3) (b1, b2, b3) = true := by rw [HS.out]; simp; omega
      have hr := Lib.hid (show (1 : Int) = cmpI (a1, a2, a3) (b1, b2, b3) by rw [HC.out, if_neg hns, if_neg (by simp; omega)])
      clear HS HC h1 hns
      go_enter Try.func130, Try.ntmps130
      go_wp2_with fail
      go_ret
      exact ⟨int_ret hr.out, HM.out⟩
theorem cmp_lt (a b : It) : decide (cmpI a b < 0) = soon a b := by
  unfold cmpI
  cases h : soon a b with
  | true => simp
  | false =>
    rw [if_neg (by simp)]
    by_cases e : a = b
    · rw [if_pos e]; simp
    · rw [if_neg e]; simp

theorem len_calls (a : Option Addr) (n c : Nat) (w : World) : Calls Try.prog 203 #[.slice a n c] w fun e w' => e = .returned (.int .i64 (n : Int)) ∧ w = w' := by
  go_enter Try.func203, Try.ntmps203
  go_wp2_with fail
  go_ret
  exact ⟨rfl, rfl⟩

set_option maxHeartbeats 1000000 in
theorem less_calls (base : Nat) (v : Value) (l : List It) (i j : Nat) (hi : i < l.length) (hj : j < l.length) (w : World) (h : ItAt w base v l) (hn : l.length ≤ 100000) :
    Calls Try.prog 204 #[v, .int .i64 (i : Int), .int .i64 (j : Int)] w fun e w' => e = .returned (.bool (soon (gt l i) (gt l j))) ∧ Mod w w' [] := by
  rcases h.shape with ⟨_, h0⟩ | ⟨g, cap, rfl, _, _, _, hg, _, h4⟩
  · rw [h0] at hi; simp at hi
  · obtain ⟨c0, c1, c2⟩ := h4 i hi
    obtain ⟨d0, d1, d2⟩ := h4 j hj
    have HL := Lib.hid (cmp_lt (gt l i) (gt l j))
    have SC := Lib.hid (fun w => sooner_calls (gt l i) (gt l j) w)
    rw [gt_eq hi, gt_eq hj] at *
    have hi' : (i : Int) < l.length := by omega
    have hj' : (j : Int) < l.length := by omega
    have hn' : (l.length : Int) ≤ 100000 := by omega
    clear h4 h
    generalize l[i] = x at *
    generalize l[j] = y at *
    obtain ⟨x1, x2, x3⟩ := x
    obtain ⟨y1, y2, y3⟩ := y
    have SC : Hid (∀ w, Calls Try.prog 130 #[.agg #[.int .i64 x1, .int .i64 x2, .int .i64 x3], .agg #[.int .i64 y1, .int .i64 y2, .int .i64 y3]] w fun e w' => e = .returned (.int .i64 (cmpI (x1, x2, x3) (y1, y2, y3))) ∧ Mod w w' []) := SC
    simp only at c0 c1 c2 d0 d1 d2
    generalize cmpI (x1, x2, x3) (y1, y2, y3) = C at *
    go_enter Try.func204, Try.ntmps204
    go_wp2_with fail
    refine Fx.wp_region_f [] (fun _ w' => Mod w w' []) (by kernel_rfl) (by decide) (Mod.refl _ _).drew ?_
    have hSS : ∀ (m' : Nat) w', Mod w w' [] → _ := fun m' w' h => (⟨keepC h c0, keepC h c1, keepC h c2, keepC h d0, keepC h d1, keepC h d2⟩ : _ ∧ _ ∧ _ ∧ _ ∧ _ ∧ _)
    refine Fx.take (i := 0) (v := ?_) _ rfl (by kernel_rfl) (by kernel_rfl) (by rfl) hSS ?_ ?_
    rotate_left
    · (intro w' hSw; (try dsimp only at hSw); go_simp; first | done | with_reducible rfl)
    try simp only [List.getElem_toArray, List.getElem_cons_succ, List.getElem_cons_zero, Act.put, List.setIfInBounds_toArray, List.set_cons_zero, List.set_cons_succ]
    refine Fx.take (i := 1) (v := ?_) _ rfl (by kernel_rfl) (by kernel_rfl) (by rfl) hSS ?_ ?_
    rotate_left
    · (intro w' hSw; (try dsimp only at hSw); go_simp; first | done | with_reducible rfl)
    try simp only [List.getElem_toArray, List.getElem_cons_succ, List.getElem_cons_zero, Act.put, List.setIfInBounds_toArray, List.set_cons_zero, List.set_cons_succ]
    refine Fx.take (i := 2) (v := ?_) _ rfl (by kernel_rfl) (by kernel_rfl) (by rfl) hSS ?_ ?_
    rotate_left
    · (intro w' hSw; (try dsimp only at hSw); go_simp; first | done | with_reducible rfl)
    try simp only [List.getElem_toArray, List.getElem_cons_succ, List.getElem_cons_zero, Act.put, List.setIfInBounds_toArray, List.set_cons_zero, List.set_cons_succ]
    refine Fx.take (i := 3) (v := ?_) _ rfl (by kernel_rfl) (by kernel_rfl) (by rfl) hSS ?_ ?_
    rotate_left
    · (intro w' hSw; (try dsimp only at hSw); go_simp; first | done | with_reducible rfl)
    try simp only [List.getElem_toArray, List.getElem_cons_succ, List.getElem_cons_zero, Act.put, List.setIfInBounds_toArray, List.set_cons_zero, List.set_cons_succ]
    refine Fx.take (i := 4) (v := ?_) _ rfl (by kernel_rfl) (by kernel_rfl) (by rfl) hSS ?_ ?_
    rotate_left
    · (intro w' hSw; (try dsimp only at hSw); go_simp; first | done | with_reducible rfl)
    try simp only [List.getElem_toArray, List.getElem_cons_succ, List.getElem_cons_zero, Act.put, List.setIfInBounds_toArray, List.set_cons_zero, List.set_cons_succ]
    refine Fx.take (i := 5) (v := ?_) _ rfl (by kernel_rfl) (by kernel_rfl) (by rfl) hSS ?_ ?_
    rotate_left
    · (intro w' hSw; (try dsimp only at hSw); go_simp; first | done | with_reducible rfl)
    try simp only [List.getElem_toArray, List.getElem_cons_succ, List.getElem_cons_zero, Act.put, List.setIfInBounds_toArray, List.set_cons_zero, List.set_cons_succ]
    refine Fx.take (i := 6) (v := ?_) _ rfl (by kernel_rfl) (by kernel_rfl) (by rfl) hSS ?_ ?_
    rotate_left
    · (intro w' hSw; (try dsimp only at hSw); go_simp; first | done | with_reducible rfl)
    try simp only [List.getElem_toArray, List.getElem_cons_succ, List.getElem_cons_zero, Act.put, List.setIfInBounds_toArray, List.set_cons_zero, List.set_cons_succ]
    refine Fx.take (i := 7) (v := ?_) _ rfl (by kernel_rfl) (by kernel_rfl) (by rfl) hSS ?_ ?_
    rotate_left
    · (intro w' hSw; (try dsimp only at hSw); go_simp; first | done | with_reducible rfl)
    try simp only [List.getElem_toArray, List.getElem_cons_succ, List.getElem_cons_zero, Act.put, List.setIfInBounds_toArray, List.set_cons_zero, List.set_cons_succ]
    refine Fx.call' (i := 8) rfl (by kernel_rfl) (by kernel_rfl) (by rfl) ?_
    apply Exists.intro
    apply Exists.intro
    apply Exists.intro
    refine ⟨?_, ?_, ?_⟩
    · (intro w'; go_simp; first | done | (refine ⟨?_, ?_⟩ <;> with_reducible rfl) | with_reducible rfl)
    · (exact fun m w' h => (SC.out w').mono fun _ _ ⟨he, hw⟩ => ⟨he, h.trans0 hw⟩)
    try simp only [List.getElem_toArray, List.getElem_cons_succ, List.getElem_cons_zero, Act.put, List.setIfInBounds_toArray, List.set_cons_zero, List.set_cons_succ]
    refine Fx.take (i := 9) (v := ?_) _ rfl (by kernel_rfl) (by kernel_rfl) (by rfl) hSS ?_ ?_
    rotate_left
    · (intro w' hSw; (try dsimp only at hSw); go_simp; first | done | with_reducible rfl)
    try simp only [List.getElem_toArray, List.getElem_cons_succ, List.getElem_cons_zero, Act.put, List.setIfInBounds_toArray, List.set_cons_zero, List.set_cons_succ]
    refine Fx.take (i := 10) (v := ?_) _ rfl (by kernel_rfl) (by kernel_rfl) (by rfl) hSS ?_ ?_
    rotate_left
    · (intro w' hSw; (try dsimp only at hSw); go_simp; first | done | with_reducible rfl)
    try simp only [List.getElem_toArray, List.getElem_cons_succ, List.getElem_cons_zero, Act.put, List.setIfInBounds_toArray, List.set_cons_zero, List.set_cons_succ]
    refine Fx.done 0 (by kernel_rfl) (by kernel_rfl) (fun w4 hC => ?_)
    have HM4 := Lib.hid hC
    clear hC hSS
    go_wp2_with fail
    go_ret
    exact ⟨bool_ret HL.out, HM4.out⟩
end Go.Proofs.Ytgmenlfhkhdbdaa.Ag
