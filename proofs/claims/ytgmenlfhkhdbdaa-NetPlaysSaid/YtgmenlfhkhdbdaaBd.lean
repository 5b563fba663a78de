/- What bytes say as a number: plain facts. -/
import Derived.Test.YtgmenlfhkhdbdaaBt
namespace Go.Proofs.Ytgmenlfhkhdbdaa.Bt
set_option linter.unusedSimpArgs false
set_option linter.unusedVariables false

def byt (s : ByteArray) (i : Nat) : Nat := (s.data.toList.getD i 0).toNat
theorem byt_lt (s : ByteArray) (i : Nat) : byt s i < 256 := (s.data.toList.getD i 0).toNat_lt
theorem byt_get (s : ByteArray) (i : Nat) (h : i < s.size) : (s[i]).toNat = byt s i := by
  unfold byt
  rw [List.getD_eq_getElem?_getD, List.getElem?_eq_getElem (by simpa using h)]; rfl
def bytesOf (s : ByteArray) (a k : Nat) : List Int := ((s.data.toList.drop a).take k).map (fun b => (b.toNat : Int))
theorem bytesOf_length (s : ByteArray) (a k : Nat) (h : a + k ≤ s.size) : (bytesOf s a k).length = k := by
  have : s.data.toList.length = s.size := by simp
  simp [bytesOf]; omega
theorem bytesOf_bytes (s : ByteArray) (a k : Nat) : ∀ x ∈ bytesOf s a k, 0 ≤ x ∧ x ≤ 255 := by
  intro x hx
  simp only [bytesOf, List.mem_map] at hx
  obtain ⟨b, _, rfl⟩ := hx
  have := b.toNat_lt
  omega
theorem bytesOf_get (s : ByteArray) (a k i : Nat) (hi : i < k) (h : a + k ≤ s.size) : (bytesOf s a k)[i]? = some ((byt s (a + i) : Nat) : Int) := by
  have hl : s.data.toList.length = s.size := by simp
  unfold bytesOf byt
  rw [List.getElem?_map, List.getElem?_take, if_pos hi, List.getElem?_drop, List.getD_eq_getElem?_getD, List.getElem?_eq_getElem (by omega)]
  rfl
theorem bytesOf_step (s : ByteArray) (a k i : Nat) (hi : i < k) (h : a + k ≤ s.size) : (bytesOf s a k).take (i + 1) = (bytesOf s a k).take i ++ [((byt s (a + i) : Nat) : Int)] := by
  rw [List.take_add_one, bytesOf_get s a k i hi h]; rfl

theorem val_append : ∀ (l m : List Int) (a : Nat), val (l ++ m) a = val m (val l a)
  | [], _, _ => rfl
  | x :: l, m, a => by simp only [List.cons_append, val]; exact val_append l m _

/-- What a tape's front says: the number, how many bytes it has, the error. -/
def numD (s : ByteArray) : Nat × Nat × Int :=
  if s.size = 0 then (0, 0, 5) else if byt s 0 ≤ 247 then (byt s 0, 1, 0)
  else if s.size ≤ byt s 0 - 247 then (0, 0, 5)
  else if byt s 1 = 0 ∨ val (bytesOf s 1 (byt s 0 - 247)) 0 ≤ 247 then (0, 0, 3)
  else (val (bytesOf s 1 (byt s 0 - 247)) 0, byt s 0 - 247 + 1, 0)

theorem val_bd (s : ByteArray) (k i : Nat) (hk : k ≤ 8) (hi : i ≤ k) (h : 1 + k ≤ s.size) : val ((bytesOf s 1 k).take i) 0 < 256 ^ i := by
  have h1 := val_lt ((bytesOf s 1 k).take i) 0 (fun x hx => bytesOf_bytes s 1 k x (List.mem_of_mem_take hx))
  have h2 : ((bytesOf s 1 k).take i).length = i := by rw [List.length_take, bytesOf_length s 1 k h]; omega
  rw [h2] at h1
  simpa using h1.1

theorem numD_facts (s : ByteArray) : (numD s).1 < 18446744073709551616 ∧ (numD s).2.1 ≤ s.size ∧ (numD s).2.1 ≤ 9 ∧ ((numD s).2.2 = 0 ∨ (numD s).2.2 = 3 ∨ (numD s).2.2 = 5) ∧ ((numD s).2.2 ≠ 0 → (numD s).1 = 0 ∧ (numD s).2.1 = 0) ∧ ((numD s).2.2 = 0 → 1 ≤ (numD s).2.1) := by
  unfold numD
  have hb := byt_lt s 0
  by_cases h0 : s.size = 0
  · rw [if_pos h0]; simp
  rw [if_neg h0]
  by_cases h1 : byt s 0 ≤ 247
  · rw [if_pos h1]; simp; omega
  rw [if_neg h1]
  by_cases h2 : s.size ≤ byt s 0 - 247
  · rw [if_pos h2]; simp
  rw [if_neg h2]
  by_cases h3 : byt s 1 = 0 ∨ val (bytesOf s 1 (byt s 0 - 247)) 0 ≤ 247
  · rw [if_pos h3]; simp
  rw [if_neg h3]
  have hv := val_bd s (byt s 0 - 247) (byt s 0 - 247) (by omega) (Nat.le_refl _) (by omega)
  rw [List.take_of_length_le (by rw [bytesOf_length s 1 _ (by omega)]; exact Nat.le_refl _)] at hv
  have hp : 256 ^ (byt s 0 - 247) ≤ 256 ^ 8 := Nat.pow_le_pow_right (by decide) (by omega)
  refine ⟨?_, ?_, ?_, ?_, ?_, ?_⟩ <;> simp <;> omega

/-- The form's test, as the reference makes it. -/
theorem form_iff (s : ByteArray) (h1 : 247 < byt s 0) (h2 : byt s 0 - 247 < s.size) :
    numS (val (bytesOf s 1 (byt s 0 - 247)) 0) = s.extract 0 (byt s 0 - 247 + 1) ↔ ¬ (byt s 1 = 0 ∨ val (bytesOf s 1 (byt s 0 - 247)) 0 ≤ 247) := by
  have hb := byt_lt s 0
  generalize hk : byt s 0 - 247 = k at *
  have hk1 : 1 ≤ k := by omega
  have hk8 : k ≤ 8 := by omega
  have hlen := bytesOf_length s 1 k (by omega)
  have hby := bytesOf_bytes s 1 k
  have hbv := be_val (bytesOf s 1 k) 0 hby
  have hvl := val_lt (bytesOf s 1 k) 0 hby
  rw [hlen] at hbv hvl
  simp only [Nat.zero_add, Nat.one_mul, Nat.zero_mul] at hvl
  -- the first byte tells how great the number is
  have hfirst : (byt s 1 = 0 → val (bytesOf s 1 k) 0 < 256 ^ (k - 1)) ∧ (byt s 1 ≠ 0 → 256 ^ (k - 1) ≤ val (bytesOf s 1 k) 0) := by
    obtain ⟨x, l, hl⟩ : ∃ x l, bytesOf s 1 k = x :: l := by
      cases hq : bytesOf s 1 k with
      | nil => rw [hq] at hlen; simp at hlen; omega
      | cons x l => exact ⟨x, l, rfl⟩
    have hx : x = ((byt s 1 : Nat) : Int) := by
      have := bytesOf_get s 1 k 0 (by omega) (by omega)
      rw [hl] at this; simpa using this
    have hll : l.length = k - 1 := by rw [hl] at hlen; simp at hlen; omega
    rw [hl]
    simp only [val, Nat.mul_zero, Nat.zero_add]
    have h3 := val_lt l x.toNat (fun y hy => hby y (by rw [hl]; simp [hy]))
    rw [hll, hx] at h3
    rw [hx]
    simp only [Int.toNat_natCast] at h3 ⊢
    constructor
    · intro h0; rw [h0] at h3 ⊢; simpa using h3.1
    · intro h0
      refine Nat.le_trans ?_ h3.2
      exact Nat.le_mul_of_pos_left _ (by omega)
  have hs : s.extract 0 (k + 1) = strOfNums (((247 + k : Nat) : Int) :: bytesOf s 1 k) := by
    apply ByteArray.ext
    apply Array.ext'
    rw [strOfNums_data, ByteArray.data_extract]
    have hl : s.data.toList.length = s.size := by simp
    rw [Array.toList_extract, List.extract_eq_take_drop, List.drop_zero, Nat.sub_zero]
    unfold bytesOf
    rw [List.map_cons, List.map_map]
    have e0 : UInt8.ofNat ((247 + k : Nat) : Int).toNat = s.data.toList.getD 0 0 := by
      have : (247 + k) = byt s 0 := by omega
      rw [Int.toNat_natCast, this]; unfold byt; simp
    rw [e0]
    have hm : List.map ((fun n => UInt8.ofNat n.toNat) ∘ fun b : UInt8 => (b.toNat : Int)) (List.take k (List.drop 1 s.data.toList)) = List.take k (List.drop 1 s.data.toList) := by
      conv => rhs; rw [← List.map_id (List.take k (List.drop 1 s.data.toList))]
      apply List.map_congr_left
      intro b _
      simp
    rw [hm]
    cases hq : s.data.toList with
    | nil => rw [hq] at hl; simp at hl; omega
    | cons b l => simp
  have inj : ∀ (a b : List Int), (∀ x ∈ a, 0 ≤ x ∧ x ≤ 255) → (∀ x ∈ b, 0 ≤ x ∧ x ≤ 255) → strOfNums a = strOfNums b → a = b := by
    intro a b ha hb h
    have := congrArg (fun z : ByteArray => z.data.toList) h
    simp only [strOfNums_data] at this
    have h2 := congrArg (List.map (fun c : UInt8 => (c.toNat : Int))) this
    rw [List.map_map, List.map_map] at h2
    have key : ∀ l : List Int, (∀ x ∈ l, 0 ≤ x ∧ x ≤ 255) → l.map ((fun c : UInt8 => (c.toNat : Int)) ∘ fun n => UInt8.ofNat n.toNat) = l := by
      intro l hl
      conv => rhs; rw [← List.map_id l]
      apply List.map_congr_left
      intro x hx
      have := hl x hx
      simp
      omega
    rwa [key a ha, key b hb] at h2
  have hbytes2 : ∀ x ∈ ((247 + k : Nat) : Int) :: bytesOf s 1 k, 0 ≤ x ∧ x ≤ 255 := by
    intro x hx
    simp only [List.mem_cons] at hx
    rcases hx with rfl | hx
    · omega
    · exact hby x hx
  have hn64 : val (bytesOf s 1 k) 0 < 18446744073709551616 := by
    refine Nat.lt_of_lt_of_le hvl.1 ?_
    exact Nat.le_trans (Nat.pow_le_pow_right (by decide) hk8) (by decide)
  rw [hs]
  constructor
  · intro h
    have h' := inj _ _ (numL_bytes _) hbytes2 h
    rintro (h3 | h3)
    · have h4 := hfirst.1 h3
      unfold numL at h'
      by_cases h5 : val (bytesOf s 1 k) 0 ≤ 247
      · rw [if_pos h5] at h'
        have := congrArg List.length h'
        simp [hlen] at this; omega
      · rw [if_neg h5] at h'
        injection h' with h6 _
        have h7 : bl (val (bytesOf s 1 k) 0) = k := by omega
        have h8 := (bl_iff (val (bytesOf s 1 k) 0) (k - 1) hn64 (by omega)).2 (by omega)
        rw [Nat.div_pos_iff] at h8
        omega
    · unfold numL at h'
      rw [if_pos h3] at h'
      have := congrArg List.length h'
      simp [hlen] at this; omega
  · intro h
    have h3 : byt s 1 ≠ 0 := fun e => h (.inl e)
    have h4 : ¬ val (bytesOf s 1 k) 0 ≤ 247 := fun e => h (.inr e)
    have h5 := hfirst.2 h3
    have h6 : bl (val (bytesOf s 1 k) 0) = k := by
      have a := (bl_iff (val (bytesOf s 1 k) 0) (k - 1) hn64 (by omega)).1 (by rw [Nat.div_pos_iff]; exact ⟨Nat.pow_pos (by decide), h5⟩)
      have b : ¬ k < bl (val (bytesOf s 1 k) 0) := by
        intro hlt
        have := (bl_iff (val (bytesOf s 1 k) 0) k hn64 hk8).2 hlt
        rw [Nat.div_pos_iff] at this
        omega
      omega
    unfold numS numL
    rw [if_neg h4, h6, hbv]
end Go.Proofs.Ytgmenlfhkhdbdaa.Bt
