/- Books, plain: what is read is just what is written. -/
import Derived.Test.YtceocpohdckkoaaBxI
namespace Go.Proofs.Ytceocpohdckkoaa.Bx
open Go.RowKit Mem Bits
set_option linter.unusedSimpArgs false
set_option linter.unusedVariables false
set_option maxRecDepth 100000

theorem num_back {t : Tp} (h : t.next.e = 0) : t.e = 0 ∧ t.s = Bt.numS t.n ++ t.next.s := by
  obtain ⟨s, e⟩ := t
  unfold Tp.next tE at h
  simp only at h
  by_cases he : e = 0
  · subst he
    rw [if_pos rfl] at h
    refine ⟨rfl, ?_⟩
    unfold Tp.n Tp.next tN tS
    simp only [if_true]
    have hf := Bt.numD_facts s
    rw [Bt.numD_form s h, Bt.split_at s _ (by omega)]
  · rw [if_neg he] at h
    exact absurd h he
theorem capN_nn {m n : Nat} (h : 0 ≤ capN m n) : capN m n = (n : Int) ∧ n ≤ m := by
  unfold capN at *
  split at h
  · omega
  · rename_i hh
    rw [if_neg hh]
    exact ⟨rfl, by omega⟩
theorem numI_of {m n : Nat} (h : 0 ≤ capN m n) : numI (capN m n) = Bt.numS n := by
  rw [(capN_nn h).1]
  unfold numI
  rw [Int.toNat_natCast]
theorem rdL_back (m : Nat) : ∀ (k : Nat) (t : Tp), (rdL m k t).2.e = 0 → (∀ x ∈ (rdL m k t).1, 0 ≤ x) → t.e = 0 ∧ t.s = putL ⟨#[]⟩ (rdL m k t).1 ++ (rdL m k t).2.s
  | 0, t, h, _ => by
    unfold rdL at *
    exact ⟨h, by unfold putL; rw [List.foldl_nil, nil_app]⟩
  | k + 1, t, h, hv => by
    unfold rdL at *
    simp only at *
    obtain ⟨e1, e2⟩ := num_back h
    obtain ⟨i1, i2⟩ := rdL_back m k t e1 (fun x hx => hv x (by simp [hx]))
    refine ⟨i1, ?_⟩
    rw [putL_snoc, numI_of (hv _ (by simp)), app_assoc, ← e2]
    exact i2
theorem rowD_back {t : Tp} (h : (rowD t).2.e = 0) (hm : mayB (rowD t).1 = true) : t.e = 0 ∧ t.s = rowT ⟨#[]⟩ (rowD t).1 ++ (rowD t).2.s := by
  obtain ⟨hne, h16, hv⟩ := mayB_vals hm
  unfold rowD at *
  have hk : 0 ≤ capN 16 t.n := by
    rcases Int.lt_or_le (capN 16 t.n) 0 with h' | h'
    · exfalso
      apply hne
      apply List.eq_nil_of_length_eq_zero
      rw [rdL_len]
      omega
    · exact h'
  obtain ⟨e1, e2⟩ := rdL_back _ _ _ h (fun x hx => (hv x hx).1)
  obtain ⟨e3, e4⟩ := num_back e1
  refine ⟨e3, ?_⟩
  unfold rowT
  rw [putL_app, rdL_len, nil_app, app_assoc, ← e2, Int.toNat_of_nonneg hk, numI_of hk]
  exact e4
theorem rowsD_back : ∀ (k : Nat) (t : Tp) (l : List (List Int)) (u : Tp), rowsD k t = some (l, u) → u.e = 0 → t.e = 0 ∧ t.s = rowsT ⟨#[]⟩ l ++ u.s
  | 0, t, l, u, h, he => by
    unfold rowsD at h
    injection h with h
    injection h with h1 h2
    subst h1 h2
    exact ⟨he, by unfold rowsT; rw [List.foldl_nil, nil_app]⟩
  | k + 1, t, l, u, h, he => by
    unfold rowsD at h
    cases hk : rowsD k t with
    | none => rw [hk] at h; cases h
    | some q =>
      obtain ⟨l', u'⟩ := q
      rw [hk] at h
      simp only at h
      by_cases hm : mayB (rowD u').1 = true
      · rw [if_pos hm] at h
        injection h with h
        injection h with h1 h2
        subst h1 h2
        obtain ⟨e1, e2⟩ := rowD_back he hm
        obtain ⟨e3, e4⟩ := rowsD_back k t l' u' hk e1
        refine ⟨e3, ?_⟩
        rw [rowsT_snoc, rowT_app, app_assoc, ← e2]
        exact e4
      · rw [if_neg hm] at h; cases h
/-- A text that says a book is that book's text. -/
theorem load_back {s : ByteArray} {b : Int} {l : List (List Int)} (h : loadD s = some (b, l)) : Okb b l ∧ txt b l = s := by
  unfold loadD at h
  simp only at h
  cases hr : rowsD (capN 64 (Tp.next ⟨s, 0⟩).n).toNat (Tp.next ⟨s, 0⟩).next with
  | none => rw [hr] at h; cases h
  | some q =>
    obtain ⟨l', u⟩ := q
    rw [hr] at h
    simp only at h
    by_cases hc : endE u.s u.e = 0 ∧ 0 ≤ capN 549755813888 (Tp.n ⟨s, 0⟩) ∧ 0 ≤ capN 64 (Tp.next ⟨s, 0⟩).n ∧ capN 549755813888 (Tp.n ⟨s, 0⟩) + l'.length ≤ 549755813888
    · rw [if_pos hc] at h
      injection h with h
      injection h with h1 h2
      subst h1 h2
      obtain ⟨c1, c2, c3, c4⟩ := hc
      obtain ⟨r1, r2, r3⟩ := rowsD_len hr
      have hn64 := capN_hi 64 (Tp.next ⟨s, 0⟩).n
      have hee : u.e = 0 ∧ u.s.size = 0 := by
        unfold endE at c1
        split at c1
        · omega
        · rename_i hh
          exact ⟨c1, by by_cases hs : u.s.size = 0; exact hs; exact absurd ⟨c1, hs⟩ hh⟩
      have hus : u.s = ⟨#[]⟩ := to_list_empty u.s hee.2
      obtain ⟨e1, e2⟩ := rowsD_back _ _ _ _ hr hee.1
      obtain ⟨e3, e4⟩ := num_back e1
      obtain ⟨e5, e6⟩ := num_back e3
      have hll : (l'.length : Int) = capN 64 (Tp.next ⟨s, 0⟩).n := by rw [r1]; omega
      refine ⟨⟨c2, c4, by omega, r2⟩, ?_⟩
      have e6' : s = Bt.numS (Tp.n ⟨s, 0⟩) ++ (Tp.next ⟨s, 0⟩).s := e6
      unfold txt headT
      rw [rowsT_app, app_assoc, hll, numI_of c2, numI_of c3]
      rw [show rowsT ⟨#[]⟩ l' = (Tp.next ⟨s, 0⟩).next.s by rw [e2, hus, app_nil]]
      rw [← e4]
      exact e6'.symm
    · rw [if_neg hc] at h; cases h
end Go.Proofs.Ytceocpohdckkoaa.Bx
