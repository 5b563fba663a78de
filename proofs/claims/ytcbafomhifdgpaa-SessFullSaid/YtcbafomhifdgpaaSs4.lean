/- Tables of sessions: May, Take; a nil table. -/
import Derived.Test.YtcbafomhifdgpaaSs3
namespace Go.Proofs.Ytcbafomhifdgpaa.Ss
open Go.RowKit Mem Si
set_option linter.unusedSimpArgs false
set_option linter.unusedVariables false
set_option maxRecDepth 100000

theorem has_pos {l : List Sn} {id : Int} (hu : Up l) (h : has l id = true) : ∃ hp : pos l id < l.length, l[pos l id].1 = id := by
  unfold has at h
  rw [List.any_eq_true] at h
  obtain ⟨s, hs, he⟩ := h
  obtain ⟨i, hi, rfl⟩ := List.getElem_of_mem hs
  simp only [beq_iff_eq] at he
  have hp : pos l id = i := pos_cut (by omega) (fun t ht hti => by have := hu t i ht hi hti; omega) (fun t ht hti => by
    rcases Nat.lt_or_ge i t with h | h
    · have := hu i t hi ht h; omega
    · have e : t = i := by omega
      subst e; omega)
  subst hp
  exact ⟨hi, he⟩
def sq (l : List Sn) (id : Int) : Int := (l.getD (pos l id) (0, 0)).2
def mayL (l : List Sn) (id seq : Int) : Bool × Int := if has l id = false then (false, 4) else if numB seq = false then (false, 1) else if sq l id < seq - 1 then (false, 170) else (decide (sq l id < seq), 0)
def takeL (l : List Sn) (id seq : Int) : List Sn := if (mayL l id seq).1 then l.set (pos l id) (id, seq) else l

theorem may_ret {a b : Bool} {x y : Int} (h1 : a = b) (h2 : x = y) : Ending.returned (.tuple #[.bool a, .int .i64 x]) = Ending.returned (.tuple #[.bool b, .int .i64 y]) := by rw [h1, h2]

set_option maxHeartbeats 1000000 in
theorem may_calls (t : Nat) (v : Value) (l : List Sn) (id seq : Int) (w : World) (h : TabAt w t v l) (hn : l.length ≤ 1000) (hu : Up l) :
    Calls Try.prog 29 #[.pointer (some ⟨t, 0, none⟩), .int .i64 id, .int .i64 seq] w fun e w' => e = .returned (.tuple #[.bool (mayL l id seq).1, .int .i64 (mayL l id seq).2]) ∧ Mod w w' [] := by
  have N := Lib.hid (fun w => number_calls seq w)
  have F := Lib.hid (find_calls t v l id w h hn hu)
  have HT := Lib.hid h
  have HU := Lib.hid hu
  unfold mayL
  cases hh : has l id with
  | false =>
    rw [if_pos rfl]
    rw [hh] at F
    clear h
    go_enter Try.func29, Try.ntmps29
    go_wp2_with fail
    (with_reducible refine (F.out).mono ?_)
    rintro e w1 ⟨rfl, hm1⟩
    have HM1 := Lib.hid hm1
    clear hm1
    go_wp2_with fail
    go_ret2
    exact ⟨rfl, HM1.out⟩
  | true =>
    rw [if_neg (by simp)]
    rw [hh] at F
    obtain ⟨hp, _⟩ := has_pos hu hh
    cases hb : numB seq with
    | false =>
      rw [if_pos rfl]
      rw [hb] at N
      clear h
      go_enter Try.func29, Try.ntmps29
      go_wp2_with fail
      (with_reducible refine (F.out).mono ?_)
      rintro e w1 ⟨rfl, hm1⟩
      have HM1 := Lib.hid hm1
      clear hm1
      go_wp2_with fail
      (with_reducible refine (N.out _).mono ?_)
      rintro e w2 ⟨rfl, rfl⟩
      go_wp2_with fail
      go_ret2
      exact ⟨rfl, HM1.out⟩
    | true =>
      rw [if_neg (by simp)]
      rw [hb] at N
      have hsb : 1 ≤ seq ∧ seq ≤ 549755813888 := of_decide_eq_true hb
      have hsq : sq l id = l[pos l id].2 := by unfold sq; rw [List.getD_eq_getElem?_getD, List.getElem?_eq_getElem hp]; rfl
      rcases h.2.shape with ⟨_, h0⟩ | ⟨g, cap, hv, h1, h2, h3, h4⟩
      · rw [h0] at hp; simp at hp
      · obtain ⟨_, c1⟩ := h4 _ hp
        rw [← hsq] at c1
        have hc0 := h.1.cell 0
        have hgl := Rw.own_lt h.2 g (by rw [hv]; rfl)
        subst hv
        have HC := Lib.hid (fun w1 (hm : Mod w w1 []) => And.intro ((hm.cell (p := ⟨t, 0, none⟩) h.1.lt (by simp)).trans hc0) ((hm.cell (p := ⟨g, pos l id * 2 + 1, none⟩) hgl (by simp)).trans c1))
        have hi' : (pos l id : Int) < l.length := by omega
        have hw1 : IntKind.i64.wrap (seq - 1) = seq - 1 := by rw [IntKind.wrap_i64]; omega
        clear h h4 hc0 c1 hsq hgl
        generalize sq l id = q at *
        generalize pos l id = p at *
        by_cases hq : q < seq - 1
        · rw [if_pos hq]
          go_enter Try.func29, Try.ntmps29
          go_wp2_with fail
          (with_reducible refine (F.out).mono ?_)
          rintro e w1 ⟨rfl, hm1⟩
          obtain ⟨c0, c1⟩ := HC.out w1 hm1
          have HM1 := Lib.hid hm1
          clear hm1
          go_wp2_with fail
          (with_reducible refine (N.out _).mono ?_)
          rintro e w2 ⟨rfl, rfl⟩
          go_wp2_with fail
          go_ret2
          exact ⟨rfl, HM1.out⟩
        · rw [if_neg hq]
          go_enter Try.func29, Try.ntmps29
          go_wp2_with fail
          (with_reducible refine (F.out).mono ?_)
          rintro e w1 ⟨rfl, hm1⟩
          obtain ⟨c0, c1⟩ := HC.out w1 hm1
          have HM1 := Lib.hid hm1
          clear hm1
          go_wp2_with fail
          (with_reducible refine (N.out _).mono ?_)
          rintro e w2 ⟨rfl, rfl⟩
          go_wp2_with fail
          go_ret2
          exact ⟨may_ret (by simp) rfl, HM1.out⟩

/-- A cell of an owned row is written. -/
theorem own_set {w : World} {base : Nat} {e : TypeId} {size g cap n : Nat} {xs : List Value} (h : w.ownsRow base e size (.slice (some ⟨g, 0, none⟩) n cap) n xs) (i : Nat) (u : Value) :
    (w.setCell ⟨g, i, none⟩ u).ownsRow base e size (.slice (some ⟨g, 0, none⟩) n cap) n (xs.set i u) := by
  obtain ⟨h0, ⟨h1, _⟩ | ⟨g', cap', cur, h1, hg, hb, h2, h3, h4, h5⟩⟩ := h
  · cases h1
  · injection h1 with e1 e2 e3
    injection e1 with e1
    injection e1 with e1
    subst e1 e3
    have hb' : Blk w g cur e := hb
    refine ⟨by rw [List.length_set]; exact h0, .inr ⟨g, cap, cur.setIfInBounds i u, rfl, hg, hb'.set i u, h2, h3, by simpa using h4, ?_⟩⟩
    subst h5
    rw [Array.toList_setIfInBounds, List.take_set]
theorem rowsC_set (l : List Sn) (i : Nat) (hi : i < l.length) (q : Int) : (rowsC l).set (i * 2 + 1) (.int .i64 q) = rowsC (l.set i (l[i].1, q)) := by
  have hs := rowsC_append (l.take i) (l[i] :: l.drop (i + 1))
  rw [← List.drop_eq_getElem_cons hi, List.take_append_drop] at hs
  have hl := rowsC_len (l.take i)
  rw [List.length_take, Nat.min_eq_left (by omega)] at hl
  have e : l.set i (l[i].1, q) = l.take i ++ (l[i].1, q) :: l.drop (i + 1) := by rw [List.set_eq_take_append_cons_drop, if_pos hi]
  rw [e, rowsC_append, hs, List.drop_eq_getElem_cons hi, List.set_append_right _ _ (by omega), show i * 2 + 1 - (rowsC (l.take i)).length = 1 by omega]
  rfl

set_option maxHeartbeats 1000000 in
theorem take_calls (t : Nat) (v : Value) (l : List Sn) (id seq : Int) (w : World) (h : TabAt w t v l) (hn : l.length ≤ 1000) (hu : Up l) :
    Calls Try.prog 23 #[.pointer (some ⟨t, 0, none⟩), .int .i64 id, .int .i64 seq] w fun e w' => e = .returned (.tuple #[.bool (mayL l id seq).1, .int .i64 (mayL l id seq).2]) ∧ TabP t v (takeL l id seq) w w' := by
  have M := Lib.hid (may_calls t v l id seq w h hn hu)
  have F := Lib.hid (fun w hw => find_calls t v l id w hw hn hu)
  have HT := Lib.hid h
  have HU := Lib.hid hu
  have hx : (mayL l id seq).1 = true → has l id = true := by
    unfold mayL
    intro h
    cases hh : has l id with
    | false => rw [hh, if_pos rfl] at h; cases h
    | true => rfl
  unfold takeL
  generalize (mayL l id seq).2 = E at *
  cases hf : (mayL l id seq).1 with
  | false =>
    rw [if_neg (by simp)]
    rw [hf] at M
    clear h hx
    go_enter Try.func23, Try.ntmps23
    go_wp2_with fail
    (with_reducible refine (M.out).mono ?_)
    rintro e w1 ⟨rfl, hm1⟩
    have HM1 := Lib.hid hm1
    clear hm1
    go_wp2_with fail
    go_ret2
    exact ⟨rfl, TabP.same HT.out HM1.out⟩
  | true =>
    rw [if_pos rfl]
    rw [hf] at M
    have hh := hx hf
    obtain ⟨hp, hid⟩ := has_pos hu hh
    rw [hh] at F
    rcases h.2.shape with ⟨_, h0⟩ | ⟨g, cap, hv, h1, h2, h3, h4⟩
    · rw [h0] at hp; simp at hp
    · obtain ⟨_, hc1⟩ := h4 _ hp
      have hrs := rowsC_set l (pos l id) hp seq
      rw [hid] at hrs
      have HRS := Lib.hid hrs
      have hlen : (l.set (pos l id) (id, seq)).length = l.length := by simp
      have hi' : (pos l id : Int) < l.length := by omega
      have htg : t < g := (h.own g (by rw [hv]; rfl)).1
      subst hv
      clear h hx hh hid h4 hrs
      generalize hL : l.set (pos l id) (id, seq) = l' at *
      clear hL
      obtain ⟨q1, hq1⟩ : ∃ q1, Value.int .i64 l[pos l id].2 = q1 := ⟨_, rfl⟩
      rw [hq1] at hc1
      clear hq1
      have HC1 := Lib.hid hc1
      clear hc1
      generalize pos l id = p at *
      go_enter Try.func23, Try.ntmps23
      go_wp2_with fail
      (with_reducible refine (M.out).mono ?_)
      rintro e w1 ⟨rfl, hm1⟩
      have HT1 := Lib.hid (HT.out.mod hm1 (by simp) (by simp))
      have HM1 := Lib.hid hm1
      clear hm1
      go_wp2_with fail
      (with_reducible refine (F.out _ HT1.out).mono ?_)
      rintro e w2 ⟨rfl, hm2⟩
      have HT2 := Lib.hid (HT1.out.mod hm2 (by simp) (by simp))
      have HM2 := Lib.hid (HM1.out.trans0 hm2)
      have c0 := HT2.out.1.cell 0
      have c1 := (HM2.out.cell (p := ⟨g, p * 2 + 1, none⟩) (HT.out.own g rfl).2 (by simp)).trans HC1.out
      have hfr : w2.frozen? ⟨g, p * 2 + 1, none⟩ = false := by
        obtain ⟨_, ⟨h1, _⟩ | ⟨g', cap', cur, h1, hg, hb, _⟩⟩ := HT2.out.2
        · cases h1
        · injection h1 with e1 e2 e3
          injection e1 with e1
          injection e1 with e1
          subst e1
          exact Blk.free hb _
      clear hm2
      go_wp2_with fail
      go_ret2
      refine ⟨rfl, .slice (some ⟨g, 0, none⟩) l.length cap, ⟨HT2.out.1.far (by show t ≠ g; omega) _, ?_⟩, HM2.out.weak0.setCell (by simp [Value.ownBlock]) _, fun k hk => .inl hk⟩
      unfold RowsAt
      rw [hlen, ← HRS.out]
      exact own_set HT2.out.2 _ _
end Go.Proofs.Ytcbafomhifdgpaa.Ss
