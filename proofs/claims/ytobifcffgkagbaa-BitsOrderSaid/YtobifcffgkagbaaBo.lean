/- Bytes of numbers stand as the numbers do: plain facts. -/
import Derived.Test.YtobifcffgkagbaaBd
import GoSem.Op.String
namespace Go.Proofs.Ytobifcffgkagbaa.Bt
set_option linter.unusedSimpArgs false
set_option linter.unusedVariables false

/-- Two rows that part at one place, the first one below there. -/
def Parts (l m : List UInt8) : Prop := ∃ (p : List UInt8) (u v : UInt8) (r s : List UInt8), l = p ++ u :: r ∧ m = p ++ v :: s ∧ u < v

theorem Parts.app {l m : List UInt8} (h : Parts l m) (x y : List UInt8) : Parts (l ++ x) (m ++ y) := by
  obtain ⟨p, u, v, r, s, rfl, rfl, h⟩ := h
  exact ⟨p, u, v, r ++ x, s ++ y, by simp, by simp, h⟩

def PartsI (l m : List Int) : Prop := ∃ (p : List Int) (u v : Int) (r s : List Int), l = p ++ u :: r ∧ m = p ++ v :: s ∧ u < v

theorem PartsI.cons {l m : List Int} (h : PartsI l m) (x : Int) : PartsI (x :: l) (x :: m) := by
  obtain ⟨p, u, v, r, s, rfl, rfl, h⟩ := h
  exact ⟨x :: p, u, v, r, s, rfl, rfl, h⟩

theorem be_parts : ∀ (k a b : Nat), a % 256 ^ k < b % 256 ^ k → PartsI (be k a) (be k b)
  | 0, a, b, h => by simp [Nat.mod_one] at h
  | k + 1, a, b, h => by
    have ha := Nat.mod_mul (a := 256 ^ k) (b := 256) (x := a)
    have hb := Nat.mod_mul (a := 256 ^ k) (b := 256) (x := b)
    rw [Nat.pow_succ, ha, hb] at h
    have hp : 0 < 256 ^ k := Nat.pow_pos (by decide)
    have la := Nat.mod_lt a hp
    have lb := Nat.mod_lt b hp
    simp only [be]
    rcases Nat.lt_trichotomy (a / 256 ^ k % 256) (b / 256 ^ k % 256) with h1 | h1 | h1
    · exact ⟨[], _, _, _, _, rfl, rfl, by omega⟩
    · rw [h1] at h ⊢
      exact (be_parts k a b (by omega)).cons _
    · exfalso
      have : 256 ^ k * (b / 256 ^ k % 256 + 1) ≤ 256 ^ k * (a / 256 ^ k % 256) := Nat.mul_le_mul_left _ h1
      rw [Nat.mul_add, Nat.mul_one] at this
      omega

theorem numL_parts (a b : Nat) (h : a < b) (hb : b < 18446744073709551616) : PartsI (numL a) (numL b) := by
  unfold numL
  by_cases h1 : b ≤ 247
  · rw [if_pos h1, if_pos (by omega)]
    exact ⟨[], _, _, _, _, rfl, rfl, by omega⟩
  · rw [if_neg h1]
    have hb1 : 1 ≤ bl b := by
      rcases bl_cases b hb with h | h | h | h | h | h | h | h | h <;> omega
    by_cases h2 : a ≤ 247
    · rw [if_pos h2]
      exact ⟨[], _, _, _, _, rfl, rfl, by omega⟩
    · rw [if_neg h2]
      rcases Nat.lt_trichotomy (bl a) (bl b) with h3 | h3 | h3
      · exact ⟨[], _, _, _, _, rfl, rfl, by omega⟩
      · rw [h3]
        have la := bl_lt a (by omega)
        have lb := bl_lt b hb
        rw [h3] at la
        exact (be_parts _ _ _ (by rw [Nat.mod_eq_of_lt la, Nat.mod_eq_of_lt lb]; exact h)).cons _
      · exfalso
        rcases bl_cases a (by omega) with g | g | g | g | g | g | g | g | g <;> rcases bl_cases b hb with f | f | f | f | f | f | f | f | f <;> omega

theorem numS_parts (a b : Nat) (h : a < b) (hb : b < 18446744073709551616) : Parts (numS a).data.toList (numS b).data.toList := by
  have ha' := numL_bytes a
  have hb' := numL_bytes b
  obtain ⟨p, u, v, r, s, e1, e2, huv⟩ := numL_parts a b h hb
  unfold numS
  rw [strOfNums_data, strOfNums_data]
  rw [e1] at ha' ⊢
  rw [e2] at hb' ⊢
  have hu := ha' u (by simp)
  have hv := hb' v (by simp)
  refine ⟨p.map fun n => UInt8.ofNat n.toNat, UInt8.ofNat u.toNat, UInt8.ofNat v.toNat, r.map fun n => UInt8.ofNat n.toNat, s.map fun n => UInt8.ofNat n.toNat, by simp, by simp, ?_⟩
  rw [UInt8.lt_iff_toNat_lt]
  simp
  omega

theorem less_parts : ∀ {l m : List UInt8}, Parts l m → Op.bytesLess l m = true ∧ Op.bytesLess m l = false ∧ l ≠ m := by
  rintro l m ⟨p, u, v, r, s, rfl, rfl, h⟩
  induction p with
  | nil =>
    have hne : u ≠ v := by rintro rfl; exact absurd h (by simp [UInt8.lt_irrefl])
    have hnl : ¬ v < u := by intro g; rw [UInt8.lt_iff_toNat_lt] at g h; omega
    refine ⟨?_, ?_, ?_⟩
    · simp [Op.bytesLess, h]
    · simp [Op.bytesLess, hnl, hne.symm]
    · intro e; simp at e; exact hne e.1
  | cons x p ih =>
    obtain ⟨i1, i2, i3⟩ := ih
    refine ⟨?_, ?_, ?_⟩
    · simpa [Op.bytesLess] using i1
    · simpa [Op.bytesLess] using i2
    · intro e; simp at e; exact i3 (by simp [e])
theorem less_self : ∀ (l : List UInt8), Op.bytesLess l l = false
  | [] => rfl
  | x :: l => by
    have := less_self l
    simpa [Op.bytesLess] using this
end Go.Proofs.Ytobifcffgkagbaa.Bt
