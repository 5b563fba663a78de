/- The bytes of a number, first byte first: plain facts. -/
import Derived.Laws.BytesArg
namespace Go.Proofs.Ytgmenlfhkhdbdaa.Bt
set_option linter.unusedSimpArgs false
set_option linter.unusedVariables false

/-- The low k bytes of n, the greatest first. -/
def be : Nat → Nat → List Int
  | 0, _ => []
  | k + 1, n => ((n / 256 ^ k % 256 : Nat) : Int) :: be k n

/-- How many bytes n has (n below 2 ^ 64). -/
def bl (n : Nat) : Nat :=
  if n < 1 then 0 else if n < 256 then 1 else if n < 65536 then 2 else if n < 16777216 then 3 else if n < 4294967296 then 4
  else if n < 1099511627776 then 5 else if n < 281474976710656 then 6 else if n < 72057594037927936 then 7 else 8

theorem bl_le (n : Nat) : bl n ≤ 8 := by unfold bl; repeat' split <;> try omega
theorem be_length : ∀ k n, (be k n).length = k
  | 0, _ => rfl
  | k + 1, n => by simp [be, be_length k n]

theorem bl_cases (n : Nat) (h : n < 18446744073709551616) :
    (bl n = 0 ∧ n < 1) ∨ (bl n = 1 ∧ 1 ≤ n ∧ n < 256) ∨ (bl n = 2 ∧ 256 ≤ n ∧ n < 65536) ∨ (bl n = 3 ∧ 65536 ≤ n ∧ n < 16777216) ∨ (bl n = 4 ∧ 16777216 ≤ n ∧ n < 4294967296) ∨
    (bl n = 5 ∧ 4294967296 ≤ n ∧ n < 1099511627776) ∨ (bl n = 6 ∧ 1099511627776 ≤ n ∧ n < 281474976710656) ∨ (bl n = 7 ∧ 281474976710656 ≤ n ∧ n < 72057594037927936) ∨ (bl n = 8 ∧ 72057594037927936 ≤ n) := by
  unfold bl
  by_cases h1 : n < 1
  · simp [h1]
  by_cases h2 : n < 256
  · rw [if_neg h1, if_pos h2]; omega
  by_cases h3 : n < 65536
  · rw [if_neg h1, if_neg h2, if_pos h3]; omega
  by_cases h4 : n < 16777216
  · rw [if_neg h1, if_neg h2, if_neg h3, if_pos h4]; omega
  by_cases h5 : n < 4294967296
  · rw [if_neg h1, if_neg h2, if_neg h3, if_neg h4, if_pos h5]; omega
  by_cases h6 : n < 1099511627776
  · rw [if_neg h1, if_neg h2, if_neg h3, if_neg h4, if_neg h5, if_pos h6]; omega
  by_cases h7 : n < 281474976710656
  · rw [if_neg h1, if_neg h2, if_neg h3, if_neg h4, if_neg h5, if_neg h6, if_pos h7]; omega
  by_cases h8 : n < 72057594037927936
  · rw [if_neg h1, if_neg h2, if_neg h3, if_neg h4, if_neg h5, if_neg h6, if_neg h7, if_pos h8]; omega
  · rw [if_neg h1, if_neg h2, if_neg h3, if_neg h4, if_neg h5, if_neg h6, if_neg h7, if_neg h8]; omega

/-- n / 256 ^ k is above 0 just while k is below the count of bytes. -/
theorem bl_iff (n k : Nat) (h : n < 18446744073709551616) (hk : k ≤ 8) : 0 < n / 256 ^ k ↔ k < bl n := by
  rw [Nat.div_pos_iff]
  have hp : 0 < 256 ^ k := Nat.pow_pos (by decide)
  rcases bl_cases n h with h | h | h | h | h | h | h | h | h <;>
    (rcases (by omega : k = 0 ∨ k = 1 ∨ k = 2 ∨ k = 3 ∨ k = 4 ∨ k = 5 ∨ k = 6 ∨ k = 7 ∨ k = 8) with rfl | rfl | rfl | rfl | rfl | rfl | rfl | rfl | rfl <;> simp <;> omega)

theorem bl_lt (n : Nat) (h : n < 18446744073709551616) : n < 256 ^ bl n := by
  rcases bl_cases n h with ⟨e, h⟩ | ⟨e, h⟩ | ⟨e, h⟩ | ⟨e, h⟩ | ⟨e, h⟩ | ⟨e, h⟩ | ⟨e, h⟩ | ⟨e, h⟩ | ⟨e, h⟩ <;> rw [e] <;> simp <;> omega

def numL (n : Nat) : List Int := if n ≤ 247 then [(n : Int)] else ((247 + bl n : Nat) : Int) :: be (bl n) n
def numS (n : Nat) : ByteArray := strOfNums (numL n)

theorem numL_length (n : Nat) : (numL n).length = if n ≤ 247 then 1 else bl n + 1 := by
  unfold numL; split <;> simp [be_length]
theorem numS_size_le (n : Nat) : (numS n).size ≤ 9 := by
  unfold numS; rw [strOfNums_size, numL_length]; have := bl_le n; split <;> omega
theorem numS_size_pos (n : Nat) : 1 ≤ (numS n).size := by
  unfold numS; rw [strOfNums_size, numL_length]; split <;> omega

theorem be_bytes : ∀ k n, ∀ x ∈ be k n, 0 ≤ x ∧ x ≤ 255
  | 0, _, x, h => by simp [be] at h
  | k + 1, n, x, h => by
    simp only [be, List.mem_cons] at h
    rcases h with h | h
    · have : n / 256 ^ k % 256 < 256 := Nat.mod_lt _ (by decide)
      omega
    · exact be_bytes k n x h
theorem numL_bytes (n : Nat) : ∀ x ∈ numL n, 0 ≤ x ∧ x ≤ 255 := by
  intro x h
  unfold numL at h
  split at h
  · simp at h; omega
  · simp only [List.mem_cons] at h
    rcases h with h | h
    · have := bl_le n; omega
    · exact be_bytes _ _ _ h

/-- The number of some bytes, the greatest first. -/
def val : List Int → Nat → Nat
  | [], a => a
  | x :: l, a => val l (256 * a + x.toNat)

theorem val_be : ∀ k n a, val (be k n) a = a * 256 ^ k + n % 256 ^ k
  | 0, n, a => by simp [be, val, Nat.mod_one]
  | k + 1, n, a => by
    simp only [be, val]
    rw [val_be k n]
    have e : (((n / 256 ^ k % 256 : Nat) : Int)).toNat = n / 256 ^ k % 256 := by omega
    rw [e, Nat.pow_succ, Nat.mod_mul, Nat.add_mul]
    rw [Nat.mul_comm 256 a, Nat.mul_assoc, Nat.mul_comm 256 (256 ^ k), Nat.mul_comm (n / 256 ^ k % 256) (256 ^ k)]
    omega

theorem be_congr : ∀ k n m, n % 256 ^ k = m % 256 ^ k → be k n = be k m
  | 0, _, _, _ => rfl
  | k + 1, n, m, h => by
    simp only [be]
    have h1 : n % 256 ^ k = m % 256 ^ k := by
      have := congrArg (· % 256 ^ k) h
      simpa [Nat.pow_succ, Nat.mod_mul_right_mod] using this
    have h2 : n / 256 ^ k % 256 = m / 256 ^ k % 256 := by
      have a := Nat.mod_mul (a := 256 ^ k) (b := 256) (x := n)
      have b := Nat.mod_mul (a := 256 ^ k) (b := 256) (x := m)
      rw [Nat.pow_succ] at h
      rw [a, b, h1] at h
      have hp : 0 < 256 ^ k := Nat.pow_pos (by decide)
      exact Nat.eq_of_mul_eq_mul_left hp (by omega)
    rw [h2, be_congr k n m h1]

theorem be_val : ∀ (l : List Int) (a : Nat), (∀ x ∈ l, 0 ≤ x ∧ x ≤ 255) → be l.length (val l a) = l
  | [], _, _ => rfl
  | x :: l, a, h => by
    have hx := h x (by simp)
    have hl := be_val l (256 * a + x.toNat) (fun y hy => h y (by simp [hy]))
    simp only [List.length_cons, be, val]
    rw [hl]
    congr 1
    have hv : ∀ (l : List Int) (b : Nat), (∀ y ∈ l, 0 ≤ y ∧ y ≤ 255) → val l b / 256 ^ l.length = b := by
      intro l
      induction l with
      | nil => intro b _; simp [val]
      | cons y l ih =>
        intro b hb
        simp only [val, List.length_cons, Nat.pow_succ]
        rw [← Nat.div_div_eq_div_mul, ih _ (fun z hz => hb z (by simp [hz]))]
        have := hb y (by simp)
        omega
    rw [hv l _ (fun y hy => h y (by simp [hy]))]
    omega

theorem val_lt : ∀ (l : List Int) (a : Nat), (∀ x ∈ l, 0 ≤ x ∧ x ≤ 255) → val l a < (a + 1) * 256 ^ l.length ∧ a * 256 ^ l.length ≤ val l a
  | [], a, _ => by simp [val]
  | x :: l, a, h => by
    have hx := h x (by simp)
    have ih := val_lt l (256 * a + x.toNat) (fun y hy => h y (by simp [hy]))
    simp only [val, List.length_cons, Nat.pow_succ]
    generalize 256 ^ l.length = P at *
    have e1 : (a + 1) * (P * 256) = (256 * a + 256) * P := by rw [Nat.mul_comm P 256, ← Nat.mul_assoc, Nat.add_mul, Nat.one_mul, Nat.mul_comm a 256]
    have e2 : a * (P * 256) = 256 * a * P := by rw [Nat.mul_comm P 256, ← Nat.mul_assoc, Nat.mul_comm a 256]
    rw [e1, e2]
    constructor
    · exact Nat.lt_of_lt_of_le ih.1 (Nat.mul_le_mul_right _ (by omega))
    · exact Nat.le_trans (Nat.mul_le_mul_right _ (by omega)) ih.2
end Go.Proofs.Ytgmenlfhkhdbdaa.Bt
