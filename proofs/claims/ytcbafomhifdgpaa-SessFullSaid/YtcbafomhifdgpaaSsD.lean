/- Tables of sessions: plain facts of a full table. -/
import Derived.Test.YtcbafomhifdgpaaSsC
namespace Go.Proofs.Ytcbafomhifdgpaa.Ss
open Go.RowKit Mem Si Bits
set_option linter.unusedSimpArgs false
set_option linter.unusedVariables false

theorem has_iff {l : List Sn} {x : Int} : has l x = true ↔ ∃ s ∈ l, s.1 = x := by
  unfold has
  rw [List.any_eq_true]
  simp
theorem has_congr {l m : List Sn} {x : Int} (h : (∃ s ∈ l, s.1 = x) ↔ ∃ s ∈ m, s.1 = x) : has l x = has m x := by
  rw [Bool.eq_iff_iff, has_iff, has_iff]; exact h
theorem has_take {l : List Sn} (hu : Up l) (id seq x : Int) : has (takeL l id seq) x = has l x := by
  unfold takeL
  by_cases hm : (mayL l id seq).1 = true
  · rw [if_pos hm]
    have hh : has l id = true := by
      cases hh : has l id with
      | false => unfold mayL at hm; rw [hh, if_pos rfl] at hm; cases hm
      | true => rfl
    obtain ⟨hp, he⟩ := has_pos hu hh
    refine has_congr ⟨?_, ?_⟩
    · rintro ⟨s, hs, rfl⟩
      rcases List.mem_or_eq_of_mem_set hs with hs | rfl
      · exact ⟨s, hs, rfl⟩
      · exact ⟨_, List.getElem_mem hp, he⟩
    · rintro ⟨s, hs, rfl⟩
      obtain ⟨i, hi, rfl⟩ := List.getElem_of_mem hs
      by_cases e : pos l id = i
      · exact ⟨(id, seq), List.mem_iff_getElem.2 ⟨i, by rw [List.length_set]; exact hi, by rw [List.getElem_set, if_pos e]⟩, by subst e; exact he.symm⟩
      · exact ⟨l[i], List.mem_iff_getElem.2 ⟨i, by rw [List.length_set]; exact hi, by rw [List.getElem_set, if_neg e]⟩, rfl⟩
  · rw [if_neg hm]
theorem len_take (l : List Sn) (id seq : Int) : (takeL l id seq).length = l.length := by
  unfold takeL
  split
  · rw [List.length_set]
  · rfl
theorem len_del {l : List Sn} (hu : Up l) {id : Int} (h : has l id = true) : (delL l id).length = l.length - 1 := by
  obtain ⟨hp, _⟩ := has_pos hu h
  unfold delL; simp; omega
theorem up_sub {l m : List Sn} (hu : Up l) (h : m.Sublist l) : Up m := up_pair.2 (List.Pairwise.sublist h (up_pair.1 hu))
theorem del_sub (l : List Sn) (id : Int) : (delL l id).Sublist l := by
  unfold delL
  have h := List.take_append_drop (pos l id) l
  conv => rhs; rw [← h]
  refine List.Sublist.append (List.Sublist.refl _) ?_
  rw [← List.drop_drop]
  exact List.drop_sublist _ _
theorem good_del {l : List Sn} (h : Good l) (id : Int) : Good (delL l id) :=
  ⟨up_sub h.up (del_sub l id), Nat.le_trans (del_sub l id).length_le h.len, fun s hs => h.rg s ((del_sub l id).subset hs)⟩
theorem good_close {l : List Sn} (h : Good l) (id : Int) : Good (closeL l id).1 := by
  unfold closeL
  split
  · exact h
  · exact good_del h id
theorem has_del {l : List Sn} (hu : Up l) {id : Int} (h : has l id = true) (x : Int) : has (delL l id) x = (has l x && !(x == id)) := by
  obtain ⟨hp, he⟩ := has_pos hu h
  rw [Bool.eq_iff_iff, has_iff, Bool.and_eq_true, has_iff]
  obtain ⟨h1, h2⟩ := pos_lt hu id
  have hc : l.drop (pos l id) = l[pos l id] :: l.drop (pos l id + 1) := List.drop_eq_getElem_cons hp
  have hp2 := up_pair.1 hu
  rw [← List.take_append_drop (pos l id) l, List.pairwise_append] at hp2
  have hp3 := hp2.2.1
  rw [hc, List.pairwise_cons] at hp3
  unfold delL
  constructor
  · rintro ⟨s, hs, rfl⟩
    rw [List.mem_append] at hs
    rcases hs with hs | hs
    · exact ⟨⟨s, List.mem_of_mem_take hs, rfl⟩, by have := h1 s hs; simp; omega⟩
    · exact ⟨⟨s, List.mem_of_mem_drop hs, rfl⟩, by have := hp3.1 s hs; rw [he] at this; simp; omega⟩
  · rintro ⟨⟨s, hs, rfl⟩, hne⟩
    have hne : s.1 ≠ id := by simpa using hne
    rw [← List.take_append_drop (pos l id) l, List.mem_append, hc, List.mem_cons] at hs
    rcases hs with hs | rfl | hs
    · exact ⟨s, List.mem_append.2 (.inl hs), rfl⟩
    · exact absurd he hne
    · exact ⟨s, List.mem_append.2 (.inr hs), rfl⟩

/-- The sessions F, F + 2, .. -/
def fl (F : Int) (i : Nat) : List Sn := (List.range i).map fun (j : Nat) => (F + 2 * (j : Int), 0)
theorem fl_succ (F : Int) (i : Nat) : fl F (i + 1) = fl F i ++ [(F + 2 * (i : Int), 0)] := by unfold fl; rw [List.range_succ, List.map_append]; rfl
theorem fl_len (F : Int) (i : Nat) : (fl F i).length = i := by simp [fl]
theorem fl_has (F : Int) (i : Nat) (x : Int) : has (fl F i) x = true ↔ ∃ j, j < i ∧ x = F + 2 * (j : Int) := by
  rw [has_iff]
  unfold fl
  constructor
  · rintro ⟨s, hs, rfl⟩
    simp only [List.mem_map, List.mem_range] at hs
    obtain ⟨j, hj, rfl⟩ := hs
    exact ⟨j, hj, rfl⟩
  · rintro ⟨j, hj, rfl⟩
    exact ⟨(F + 2 * (j : Int), 0), by simp only [List.mem_map, List.mem_range]; exact ⟨j, hj, rfl⟩, rfl⟩
theorem fl_good (F : Int) (h1 : 1 ≤ F) (h2 : F ≤ 1000) (i : Nat) (hi : i ≤ 32) : Good (fl F i) := by
  refine ⟨fun a b ha hb hab => ?_, by rw [fl_len]; exact hi, fun s hs => ?_⟩
  · simp only [fl, List.getElem_map, List.getElem_range]
    omega
  · simp only [fl, List.mem_map, List.mem_range] at hs
    obtain ⟨j, hj, rfl⟩ := hs
    exact ⟨⟨by show 1 ≤ F + 2 * (j : Int); omega, by show F + 2 * (j : Int) ≤ _; omega⟩, Int.le_refl 0, by show (0 : Int) ≤ 549755813888; omega⟩
theorem fl_open (F : Int) (h1 : 1 ≤ F) (h2 : F ≤ 1000) (i : Nat) (hi : i < 32) : openL (fl F i) (F + 2 * (i : Int)) = (fl F (i + 1), 0) := by
  have hb : numB (F + 2 * (i : Int)) = true := decide_eq_true ⟨by omega, by omega⟩
  have hh : has (fl F i) (F + 2 * (i : Int)) = false := by
    rw [Bool.eq_false_iff]
    intro h
    obtain ⟨j, hj, he⟩ := (fl_has F i _).1 h
    omega
  have hp : pos (fl F i) (F + 2 * (i : Int)) = i := pos_cut (by rw [fl_len]; exact Nat.le_refl _) (fun t ht hti => by simp only [fl, List.getElem_map, List.getElem_range]; omega) (fun t ht hti => by rw [fl_len] at ht; omega)
  unfold openL
  rw [hb, if_neg (by simp), hh, if_neg (by simp), if_neg (by rw [fl_len]; omega)]
  have hi' : insL (fl F i) (F + 2 * (i : Int), 0) = fl F (i + 1) := by
    unfold insL
    show (fl F i).take (pos (fl F i) (F + 2 * (i : Int))) ++ _ ++ (fl F i).drop (pos (fl F i) (F + 2 * (i : Int))) = _
    rw [hp, fl_succ, List.take_of_length_le (by rw [fl_len]; exact Nat.le_refl _), List.drop_of_length_le (by rw [fl_len]; exact Nat.le_refl _), List.append_nil]
  rw [hi']
theorem fl_may (F : Int) (h1 : 1 ≤ F) (h2 : F ≤ 1000) (c : Nat) (hc : c < 32) : mayL (fl F 32) (F + 2 * (c : Int)) 1 = (true, 0) := by
  have hh : has (fl F 32) (F + 2 * (c : Int)) = true := (fl_has F 32 _).2 ⟨c, hc, rfl⟩
  have hs : sq (fl F 32) (F + 2 * (c : Int)) = 0 := by
    obtain ⟨hp, _⟩ := has_pos (fl_good F h1 h2 32 (by omega)).up hh
    unfold sq
    rw [List.getD_eq_getElem?_getD, List.getElem?_eq_getElem hp]
    simp [fl]
  unfold mayL
  rw [hh, hs, if_neg (by simp), if_neg (by decide), if_neg (by decide)]
  rfl
/-- What SessFull asks, of the table behind the 32. -/
theorem full_facts (F : Int) (h1 : 1 ≤ F) (h2 : F ≤ 1000) (c : Nat) (hc : c < 32) (l2 l3 : List Sn) (e2 : l2 = takeL (fl F 32) (F + 2 * (c : Int)) 1) (e3 : l3 = delL l2 (F + 2 * (c : Int))) :
    Good l2 ∧ Good l3 ∧ openL l2 (F + 1) = (l2, 7) ∧ openL l2 (F + 2 * (c : Int)) = (l2, 9) ∧ closeL l2 (F + 2 * (c : Int)) = (l3, 0) ∧ closeL l3 (F + 2 * (c : Int)) = (l3, 4) ∧ (openL l3 (F + 1)).2 = 0 ∧ (openL l3 (F + 1)).1.length = 32 := by
  have hg := fl_good F h1 h2 32 (by omega)
  have g2 : Good l2 := by rw [e2]; exact good_take hg _ _
  have g3 : Good l3 := by rw [e3]; exact good_del g2 _
  have hn : has l2 (F + 1) = false := by
    rw [e2, has_take hg.up, Bool.eq_false_iff]
    intro h
    obtain ⟨j, hj, he⟩ := (fl_has F 32 _).1 h
    omega
  have hy : has l2 (F + 2 * (c : Int)) = true := by rw [e2, has_take hg.up]; exact (fl_has F 32 _).2 ⟨c, hc, rfl⟩
  have l32 : l2.length = 32 := by rw [e2, len_take, fl_len]
  have l31 : l3.length = 31 := by rw [e3, len_del g2.up hy, l32]
  have hn3 : has l3 (F + 1) = false := by rw [e3, has_del g2.up hy, hn]; rfl
  have hy3 : has l3 (F + 2 * (c : Int)) = false := by rw [e3, has_del g2.up hy]; simp
  have b1 : numB (F + 1) = true := decide_eq_true ⟨by omega, by omega⟩
  have b2 : numB (F + 2 * (c : Int)) = true := decide_eq_true ⟨by omega, by omega⟩
  refine ⟨g2, g3, ?_, ?_, ?_, ?_, ?_, ?_⟩
  · unfold openL; rw [b1, if_neg (by simp), hn, if_neg (by simp), if_pos (by omega)]
  · unfold openL; rw [b2, if_neg (by simp), hy, if_pos rfl]
  · unfold closeL; rw [hy, if_neg (by simp), e3]
  · unfold closeL; rw [hy3, if_pos rfl]
  · unfold openL; rw [b1, if_neg (by simp), hn3, if_neg (by simp), if_neg (by omega)]
  · unfold openL; rw [b1, if_neg (by simp), hn3, if_neg (by simp), if_neg (by omega)]; show (insL l3 (F + 1, 0)).length = 32; rw [insL_len, l31]
end Go.Proofs.Ytcbafomhifdgpaa.Ss
