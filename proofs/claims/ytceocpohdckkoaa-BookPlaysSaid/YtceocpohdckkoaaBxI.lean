/- Books, plain: what is written is read as it was. -/
import Derived.Test.YtceocpohdckkoaaBxF
import Derived.Test.YtceocpohdckkoaaBu
namespace Go.Proofs.Ytceocpohdckkoaa.Bx
open Go.RowKit Mem Bits
set_option linter.unusedSimpArgs false
set_option linter.unusedVariables false
set_option maxRecDepth 100000

theorem app_assoc (a b c : ByteArray) : (a ++ b) ++ c = a ++ (b ++ c) := by
  apply ByteArray.ext; apply Array.ext'
  simp [ByteArray.data_append, Array.toList_append]
theorem app_nil (s : ByteArray) : s ++ (⟨#[]⟩ : ByteArray) = s := by
  apply ByteArray.ext; apply Array.ext'
  simp [ByteArray.data_append, Array.toList_append]
theorem putL_app (s : ByteArray) (l : List Int) : putL s l = s ++ putL ⟨#[]⟩ l := by
  unfold putL
  induction l generalizing s with
  | nil => rw [List.foldl_nil, List.foldl_nil, app_nil]
  | cons x l ih => rw [List.foldl_cons, ih, List.foldl_cons, ih (⟨#[]⟩ ++ numI x), nil_app, app_assoc]
theorem rowT_app (s : ByteArray) (r : List Int) : rowT s r = s ++ rowT ⟨#[]⟩ r := by
  unfold rowT
  rw [putL_app, putL_app (⟨#[]⟩ ++ numI (r.length : Int)), nil_app, app_assoc]
theorem rowsT_app (s : ByteArray) (rows : List (List Int)) : rowsT s rows = s ++ rowsT ⟨#[]⟩ rows := by
  unfold rowsT
  induction rows generalizing s with
  | nil => rw [List.foldl_nil, List.foldl_nil, app_nil]
  | cons r rows ih => rw [List.foldl_cons, ih, List.foldl_cons, ih (rowT ⟨#[]⟩ r), rowT_app, app_assoc]
theorem num_read (x : Int) (h0 : 0 ≤ x) (h1 : x < 18446744073709551616) (r : ByteArray) : Tp.n ⟨numI x ++ r, 0⟩ = x.toNat ∧ Tp.next ⟨numI x ++ r, 0⟩ = ⟨r, 0⟩ := by
  have h := Bt.numD_app x.toNat (by omega) r
  unfold Tp.n Tp.next tN tS tE
  simp only [if_true]
  unfold numI
  rw [h]
  exact ⟨rfl, by rw [Bt.extract_rest]⟩
theorem capN_ok {m : Nat} {x : Int} (h0 : 0 ≤ x) (h1 : x ≤ m) : capN m x.toNat = x := by
  unfold capN
  rw [if_neg (by omega)]
  omega
/-- Induction from the end. -/
theorem snocInd {α : Type} {p : List α → Prop} (h0 : p []) (h1 : ∀ l x, p l → p (l ++ [x])) (l : List α) : p l := by
  have h : ∀ n, ∀ l : List α, l.length = n → p l := by
    intro n
    induction n with
    | zero => intro l hl; rw [List.eq_nil_of_length_eq_zero hl]; exact h0
    | succ n ih =>
      intro l hl
      have hne : l ≠ [] := by rintro rfl; simp at hl
      rw [← List.dropLast_concat_getLast hne]
      exact h1 _ _ (ih _ (by rw [List.length_dropLast]; omega))
  exact h _ l rfl
theorem rdL_read (m : Nat) (hm : m < 18446744073709551616) (l : List Int) : (∀ x ∈ l, 0 ≤ x ∧ x ≤ (m : Int)) → ∀ r, rdL m l.length ⟨putL ⟨#[]⟩ l ++ r, 0⟩ = (l, ⟨r, 0⟩) := by
  refine snocInd (p := fun l => (∀ x ∈ l, 0 ≤ x ∧ x ≤ (m : Int)) → ∀ r, rdL m l.length ⟨putL ⟨#[]⟩ l ++ r, 0⟩ = (l, ⟨r, 0⟩)) ?_ ?_ l
  · intro _ r
    show rdL m 0 ⟨putL ⟨#[]⟩ [] ++ r, 0⟩ = _
    unfold rdL putL
    rw [List.foldl_nil, nil_app]
  · intro l x ih h r
    have hx := h x (by simp)
    rw [List.length_append, List.length_singleton, putL_snoc, app_assoc]
    unfold rdL
    simp only
    rw [ih (fun y hy => h y (by simp [hy])) (numI x ++ r)]
    obtain ⟨e1, e2⟩ := num_read x hx.1 (by omega) r
    rw [e1, e2, capN_ok hx.1 hx.2]
/-- A match that may be: its numbers. -/
theorem mayB_vals {r : List Int} (h : mayB r = true) : r ≠ [] ∧ r.length ≤ 16 ∧ ∀ x ∈ r, 0 ≤ x ∧ x ≤ 549755813888 := by
  unfold mayB at h
  simp only [Bool.and_eq_true, decide_eq_true_eq] at h
  obtain ⟨⟨⟨⟨h1, h2⟩, h3⟩, h4⟩, h5⟩ := h
  rw [rising_iff] at h5
  have lo : ∀ i, i < r.length → gi r 0 ≤ gi r i := by
    intro i
    induction i with
    | zero => intro _; omega
    | succ i ih => intro hi; have := ih (by omega); have := h5 i hi; omega
  have hi : ∀ k i, i + k + 1 = r.length → gi r i ≤ gi r (r.length - 1) := by
    intro k
    induction k with
    | zero => intro i hi; rw [show r.length - 1 = i by omega]; omega
    | succ k ih => intro i hi; have := ih (i + 1) (by omega); have := h5 i (by omega); omega
  refine ⟨by rintro rfl; simp at h1, h2, fun x hx => ?_⟩
  obtain ⟨i, hi1, rfl⟩ := List.getElem_of_mem hx
  rw [gi_eq hi1]
  have := lo i hi1
  have := hi (r.length - 1 - i) i (by omega)
  omega
theorem rowD_read {r : List Int} (h : mayB r = true) (q : ByteArray) : rowD ⟨rowT ⟨#[]⟩ r ++ q, 0⟩ = (r, ⟨q, 0⟩) := by
  obtain ⟨_, h2, h3⟩ := mayB_vals h
  unfold rowD rowT
  rw [putL_app, nil_app, app_assoc]
  obtain ⟨e1, e2⟩ := num_read (r.length : Int) (by omega) (by omega) (putL ⟨#[]⟩ r ++ q)
  rw [e1, e2, capN_ok (by omega) (by omega), Int.toNat_natCast]
  exact rdL_read 549755813888 (by omega) r h3 q
theorem rowsD_read (rows : List (List Int)) : (∀ r ∈ rows, mayB r = true) → ∀ q, rowsD rows.length ⟨rowsT ⟨#[]⟩ rows ++ q, 0⟩ = some (rows, ⟨q, 0⟩) := by
  refine snocInd (p := fun rows => (∀ r ∈ rows, mayB r = true) → ∀ q, rowsD rows.length ⟨rowsT ⟨#[]⟩ rows ++ q, 0⟩ = some (rows, ⟨q, 0⟩)) ?_ ?_ rows
  · intro _ q
    show rowsD 0 ⟨rowsT ⟨#[]⟩ [] ++ q, 0⟩ = _
    unfold rowsD rowsT
    rw [List.foldl_nil, nil_app]
  · intro rows r ih h q
    have hr := h r (by simp)
    rw [List.length_append, List.length_singleton, rowsT_snoc, rowT_app, app_assoc]
    unfold rowsD
    rw [ih (fun x hx => h x (by simp [hx])) (rowT ⟨#[]⟩ r ++ q)]
    simp only
    rw [rowD_read hr q, if_pos hr]
/-- A book that may be. -/
structure Okb (base : Int) (rows : List (List Int)) : Prop where
  lo : 0 ≤ base
  hi : base + rows.length ≤ 549755813888
  len : rows.length ≤ 64
  may : ∀ r ∈ rows, mayB r = true
theorem load_txt {base : Int} {rows : List (List Int)} (h : Okb base rows) : loadD (txt base rows) = some (base, rows) := by
  have e0 : txt base rows = numI base ++ (numI (rows.length : Int) ++ (rowsT ⟨#[]⟩ rows ++ ⟨#[]⟩)) := by
    unfold txt headT
    rw [rowsT_app, app_assoc, app_nil]
  have h1 := h.lo
  have h2 := h.hi
  have h3 := h.len
  unfold loadD
  simp only
  rw [e0]
  obtain ⟨e1, e2⟩ := num_read base h1 (by omega) (numI (rows.length : Int) ++ (rowsT ⟨#[]⟩ rows ++ ⟨#[]⟩))
  rw [e1, e2, capN_ok h1 (by omega)]
  obtain ⟨e3, e4⟩ := num_read (rows.length : Int) (by omega) (by omega) (rowsT ⟨#[]⟩ rows ++ ⟨#[]⟩)
  rw [e3, e4, capN_ok (by omega) (by omega), Int.toNat_natCast, rowsD_read rows h.may]
  simp only
  rw [if_pos ⟨by decide, h1, by omega, h2⟩]
end Go.Proofs.Ytceocpohdckkoaa.Bx
