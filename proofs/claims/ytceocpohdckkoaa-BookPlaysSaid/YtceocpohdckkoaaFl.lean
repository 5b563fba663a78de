/- Plain facts on the order and the rounding of float64 words. -/
import Derived.Laws.FloatBits
namespace Go.Proofs.Ytceocpohdckkoaa.Fl
open Ieee
set_option linter.unusedSimpArgs false
set_option linter.unusedVariables false

def H : Nat := 9223372036854775808
def B : Nat := 4503599627370496
def I : Nat := 9218868437227405312

def rung (a : Nat) : Nat := a % H
def neg (a : Nat) : Bool := a / H % 2 == 1
def nanB (a : Nat) : Bool := decide (I < rung a)
def sgn (s : Bool) (x : Nat) : Int := if s then -(x : Int) else (x : Int)
def key (a : Nat) : Int := sgn (neg a) (rung a)

def V (r : Nat) : Nat := if r < B then r else (B + r % B) * 2 ^ (r / B - 1)

theorem B_pos : 0 < B := by decide

theorem V_step (r : Nat) : V r < V (r + 1) := by
  unfold V
  have hB : B = 4503599627370496 := rfl
  by_cases h : r + 1 < B
  · rw [if_pos h, if_pos (by omega)]; omega
  · rw [if_neg h]
    by_cases h' : r < B
    · rw [if_pos h']
      have : r + 1 = B := by omega
      rw [this, Nat.mod_self, Nat.div_self B_pos]
      simp; omega
    · rw [if_neg h']
      have hm := Nat.div_add_mod r B
      have hl := Nat.mod_lt r B_pos
      have hq : 1 ≤ r / B := (Nat.le_div_iff_mul_le B_pos).2 (by omega)
      obtain ⟨q, hq'⟩ : ∃ q, r / B = q + 1 := ⟨r / B - 1, by omega⟩
      by_cases he : r % B + 1 = B
      · have hr : r + 1 = B * (q + 2) := by
          rw [hq'] at hm
          have : B * (q + 2) = B * (q + 1) + B := by rw [Nat.mul_succ]
          omega
        rw [hr, Nat.mul_mod_right, Nat.mul_div_cancel_left _ B_pos, hq']
        simp only [Nat.add_zero, Nat.add_sub_cancel]
        have h2 : (2 : Nat) ^ (q + 2 - 1) = 2 * 2 ^ q := by
          rw [show q + 2 - 1 = q + 1 from rfl, Nat.pow_succ]; omega
        rw [h2]
        have hp : 0 < 2 ^ q := Nat.two_pow_pos q
        have hlt : B + r % B < 2 * B := by omega
        calc (B + r % B) * 2 ^ q < 2 * B * 2 ^ q := Nat.mul_lt_mul_of_pos_right hlt hp
          _ = B * (2 * 2 ^ q) := by rw [Nat.mul_comm 2 B, Nat.mul_assoc]
      · have hr : r + 1 = B * (q + 1) + (r % B + 1) := by rw [hq'] at hm; omega
        have h1 : (r + 1) / B = q + 1 := by
          rw [hr, Nat.mul_add_div B_pos, Nat.div_eq_of_lt (by omega)]
        have h2 : (r + 1) % B = r % B + 1 := by
          rw [hr, Nat.mul_add_mod, Nat.mod_eq_of_lt (by omega)]
        rw [h1, h2, hq']
        exact Nat.mul_lt_mul_of_pos_right (by omega) (Nat.two_pow_pos _)

theorem V_lt {r s : Nat} (h : r < s) : V r < V s := by
  induction s with
  | zero => omega
  | succ s ih =>
    by_cases e : r = s
    · subst e; exact V_step r
    · exact Nat.lt_trans (ih (by omega)) (V_step s)

theorem V_lt_iff (r s : Nat) : V r < V s ↔ r < s := by
  constructor
  · intro h
    rcases Nat.lt_trichotomy r s with h1 | h1 | h1
    · exact h1
    · subst h1; omega
    · have := V_lt h1; omega
  · exact V_lt

theorem V_eq_iff (r s : Nat) : V r = V s ↔ r = s := by
  constructor
  · intro h
    rcases Nat.lt_trichotomy r s with h1 | h1 | h1
    · have := V_lt h1; omega
    · exact h1
    · have := V_lt h1; omega
  · rintro rfl; rfl

theorem V_zero : V 0 = 0 := by decide

theorem cmp_congr {x y x' y' : Int} (h1 : x < y ↔ x' < y') (h2 : x = y ↔ x' = y') : compare x y = compare x' y' := by
  show compareOfLessAndEq x y = compareOfLessAndEq x' y'
  unfold compareOfLessAndEq
  by_cases a : x < y
  · rw [if_pos a, if_pos (h1.1 a)]
  · rw [if_neg a, if_neg (fun h => a (h1.2 h))]
    by_cases b : x = y
    · rw [if_pos b, if_pos (h2.1 b)]
    · rw [if_neg b, if_neg (fun h => b (h2.2 h))]

theorem sgn_lt_congr {f : Nat → Nat} (hf : ∀ r s, f r < f s ↔ r < s) (h0 : f 0 = 0) (s t : Bool) (x y : Nat) : sgn s (f x) < sgn t (f y) ↔ sgn s x < sgn t y := by
  have a := hf x y
  have b := hf y x
  have c := hf 0 x
  have d := hf 0 y
  rw [h0] at c d
  cases s <;> cases t <;> simp only [sgn, if_true, Bool.false_eq_true, if_false] <;> omega

theorem sgn_eq_congr {f : Nat → Nat} (hf : ∀ r s, f r < f s ↔ r < s) (h0 : f 0 = 0) (s t : Bool) (x y : Nat) : sgn s (f x) = sgn t (f y) ↔ sgn s x = sgn t y := by
  have a := hf x y
  have b := hf y x
  have c := hf 0 x
  have d := hf 0 y
  rw [h0] at c d
  cases s <;> cases t <;> simp only [sgn, if_true, Bool.false_eq_true, if_false] <;> omega

theorem infRung_eq : double.infRung = I := by decide
theorem binade_eq : double.binade = B := by decide
theorem signWeight_eq : double.signWeight = H := by decide

theorem read_num (a : Nat) (h : rung a < I) : ∃ m i : Nat, double.read a = .number (neg a) m (double.leastPlace + (i : Int)) ∧ m * 2 ^ i = V (rung a) := by
  unfold Format.read
  rw [infRung_eq, binade_eq, signWeight_eq]
  simp only []
  change ∃ m i : Nat, (if rung a < B then _ else _) = _ ∧ _
  by_cases h1 : rung a < B
  · refine ⟨rung a, 0, ?_, ?_⟩
    · rw [if_pos h1]; simp [neg, rung]
    · unfold V; rw [if_pos h1]; simp
  · refine ⟨B + rung a % B, rung a / B - 1, ?_, ?_⟩
    · rw [if_neg h1]
      have h' : a % H < I := h
      rw [if_pos h']; simp [neg, rung]
    · unfold V; rw [if_neg h1]

theorem read_inf (a : Nat) (h : rung a = I) : double.read a = .infinity (neg a) := by
  unfold Format.read
  rw [infRung_eq, binade_eq, signWeight_eq]
  simp only []
  have h' : a % H = I := h
  rw [h', if_neg (by decide), if_neg (by decide), if_pos rfl]; simp [neg]

theorem read_nan (a : Nat) (h : I < rung a) : double.read a = .nan (neg a) (rung a - I) := by
  unfold Format.read
  rw [infRung_eq, binade_eq, signWeight_eq]
  simp only []
  have h' : I < a % H := h
  have hIB : B < I := by decide
  rw [if_neg (by omega), if_neg (by omega), if_neg (by omega)]; simp [neg, rung]

theorem signed_eq (s : Bool) (m k : Nat) : signed s m k = sgn s (m * 2 ^ k) := by
  unfold signed sgn
  rw [Nat.shiftLeft_eq]

theorem order_num (s t : Bool) (m n i j : Nat) (p : Int) : Datum.order (.number s m (p + (i : Int))) (.number t n (p + (j : Int))) = some (compare (sgn s (m * 2 ^ i)) (sgn t (n * 2 ^ j))) := by
  simp only [Datum.order, signed_eq]
  congr 1
  have e1 : (p + (i : Int) - min (p + (i : Int)) (p + (j : Int))).toNat = i - min i j := by omega
  have e2 : (p + (j : Int) - min (p + (i : Int)) (p + (j : Int))).toNat = j - min i j := by omega
  rw [e1, e2]
  have f1 : m * 2 ^ i = (m * 2 ^ (i - min i j)) * 2 ^ (min i j) := by
    rw [Nat.mul_assoc, ← Nat.pow_add]; congr 2; omega
  have f2 : n * 2 ^ j = (n * 2 ^ (j - min i j)) * 2 ^ (min i j) := by
    rw [Nat.mul_assoc, ← Nat.pow_add]; congr 2; omega
  rw [f1, f2]
  have hp : 0 < 2 ^ (min i j) := Nat.two_pow_pos _
  have hf : ∀ r s, r * 2 ^ (min i j) < s * 2 ^ (min i j) ↔ r < s := fun r s => Nat.mul_lt_mul_right hp
  exact cmp_congr (sgn_lt_congr hf (Nat.zero_mul _) s t _ _).symm (sgn_eq_congr hf (Nat.zero_mul _) s t _ _).symm

theorem order_eq (a b : Nat) : double.order a b = if nanB a || nanB b then none else some (compare (key a) (key b)) := by
  unfold Format.order nanB
  have hr : rung a < H := Nat.mod_lt _ (by decide)
  have hs : rung b < H := Nat.mod_lt _ (by decide)
  by_cases na : I < rung a
  · simp only [na, decide_true, Bool.true_or, if_true]
    rw [read_nan a na]; simp [Datum.order]
  by_cases nb : I < rung b
  · simp only [nb, decide_true, Bool.or_true, if_true]
    rw [read_nan b nb]; cases double.read a <;> simp [Datum.order]
  simp only [na, nb, decide_false, Bool.or_self, Bool.false_eq_true, if_false]
  by_cases ia : rung a = I
  · rw [read_inf a ia]
    by_cases ib : rung b = I
    · rw [read_inf b ib]
      simp only [Datum.order, key, ia, ib]
      cases neg a <;> cases neg b <;> decide
    · obtain ⟨n, j, e, _⟩ := read_num b (by omega)
      rw [e]
      simp only [Datum.order, key, ia]
      congr 1
      have hb : rung b < I := by omega
      cases neg a
      · simp only [Bool.false_eq_true, if_false]
        symm
        show compareOfLessAndEq _ _ = _
        unfold compareOfLessAndEq
        rw [if_neg, if_neg]
        all_goals (cases neg b <;> simp only [sgn, if_true, Bool.false_eq_true, if_false] <;> omega)
      · simp only [if_true]
        symm
        show compareOfLessAndEq _ _ = _
        unfold compareOfLessAndEq
        rw [if_pos]
        cases neg b <;> simp only [sgn, if_true, Bool.false_eq_true, if_false] <;> omega
  · obtain ⟨m, i, e, hm⟩ := read_num a (by omega)
    by_cases ib : rung b = I
    · rw [read_inf b ib, e]
      simp only [Datum.order, key, ib]
      congr 1
      have hb : rung a < I := by omega
      cases neg b
      · simp only [Bool.false_eq_true, if_false]
        symm
        show compareOfLessAndEq _ _ = _
        unfold compareOfLessAndEq
        rw [if_pos]
        cases neg a <;> simp only [sgn, if_true, Bool.false_eq_true, if_false] <;> omega
      · simp only [if_true]
        symm
        show compareOfLessAndEq _ _ = _
        unfold compareOfLessAndEq
        rw [if_neg, if_neg]
        all_goals (cases neg a <;> simp only [sgn, if_true, Bool.false_eq_true, if_false] <;> omega)
    · obtain ⟨n, j, e', hn⟩ := read_num b (by omega)
      rw [e, e', order_num, hm, hn]
      congr 1
      exact cmp_congr (sgn_lt_congr V_lt_iff V_zero _ _ _ _) (sgn_eq_congr V_lt_iff V_zero _ _ _ _)

theorem cmp_lt (x y : Int) : (compare x y == .lt) = decide (x < y) := by
  show (compareOfLessAndEq x y == .lt) = _
  unfold compareOfLessAndEq
  by_cases a : x < y
  · simp [a]
  · by_cases b : x = y <;> simp [a, b]
theorem cmp_eq (x y : Int) : (compare x y == .eq) = decide (x = y) := by
  show (compareOfLessAndEq x y == .eq) = _
  unfold compareOfLessAndEq
  by_cases a : x < y
  · have : x ≠ y := by omega
    simp [a, this]
  · by_cases b : x = y <;> simp [a, b]
theorem cmp_gt (x y : Int) : (compare x y == .gt) = decide (y < x) := by
  show (compareOfLessAndEq x y == .gt) = _
  unfold compareOfLessAndEq
  by_cases a : x < y
  · have : ¬ y < x := by omega
    simp [a, this]
  · by_cases b : x = y
    · simp [b]
    · have : y < x := by omega
      simp [a, b, this]

def eqB (a b : Nat) : Bool := !(nanB a) && !(nanB b) && decide (key a = key b)
def ltB (a b : Nat) : Bool := !(nanB a) && !(nanB b) && decide (key a < key b)

theorem order_is_eq (a b : Nat) : (double.order a b == some .eq) = eqB a b := by
  rw [order_eq]; unfold eqB
  cases ha : nanB a <;> cases hb : nanB b <;> simp [← cmp_eq]
theorem order_is_lt (a b : Nat) : (double.order a b == some .lt) = ltB a b := by
  rw [order_eq]; unfold ltB
  cases ha : nanB a <;> cases hb : nanB b <;> simp [← cmp_lt]
theorem order_is_gt (a b : Nat) : (double.order a b == some .gt) = ltB b a := by
  rw [order_eq]; unfold ltB
  cases ha : nanB a <;> cases hb : nanB b <;> simp [← cmp_gt]

theorem self_ne (a : Nat) : (double.order a a != some .eq) = nanB a := by
  show (!(double.order a a == some .eq)) = _
  rw [order_is_eq]; unfold eqB; cases nanB a <;> simp
theorem self_eq (a : Nat) : (double.order a a == some .eq) = !nanB a := by
  rw [order_is_eq]; unfold eqB; cases nanB a <;> simp


def rankB (a : Nat) : Int := if nanB a then 18446744073709551615 else if neg a then 18446744073709551615 - (a : Int) else 9223372036854775808 + (a : Int)

def holdsB (op : Int) (a b : Nat) : Bool :=
  if op = 2 then !(eqB a b) else if op = 1 then eqB a b else if op = 3 then ltB a b else if op = 4 then ltB a b || eqB a b
  else if op = 5 then ltB b a else if op = 6 then ltB b a || eqB a b else false

def belowB (a b : Nat) : Bool := decide (key a < key b)

theorem neg_iff (a : Nat) (ha : a < 18446744073709551616) : neg a = decide (9223372036854775808 ≤ a) := by
  unfold neg H
  rw [Bool.eq_iff_iff]; simp; omega
theorem rung_eq (a : Nat) (ha : a < 18446744073709551616) : rung a = if neg a then a - 9223372036854775808 else a := by
  rw [neg_iff a ha]
  unfold rung H
  by_cases h : 9223372036854775808 ≤ a <;> simp [h] <;> omega
theorem nanB_iff (a : Nat) : nanB a = decide (18437736874454810624 < 2 * (a % 9223372036854775808)) := by
  unfold nanB rung H I
  rw [Bool.eq_iff_iff]; simp; omega

theorem rankB_bd (a : Nat) (ha : a < 18446744073709551616) : 0 ≤ rankB a ∧ rankB a ≤ 18446744073709551615 := by
  unfold rankB
  have := neg_iff a ha
  by_cases h : 9223372036854775808 ≤ a
  · simp only [h, decide_true] at this
    rw [this]; cases nanB a <;> simp <;> omega
  · simp only [h, decide_false] at this
    rw [this]; cases nanB a <;> simp <;> omega

/-- The order of two numbers' ranks is that of the numbers, where they differ. -/
theorem rank_lt_of (a b : Nat) (ha : a < 18446744073709551616) (hb : b < 18446744073709551616) (na : nanB a = false) (nb : nanB b = false) (h : key a < key b) : rankB a < rankB b := by
  unfold rankB; rw [na, nb]
  unfold key sgn at h
  rw [rung_eq a ha, rung_eq b hb] at h
  have ea := neg_iff a ha
  have eb := neg_iff b hb
  cases h1 : neg a <;> cases h2 : neg b <;> rw [h1] at ea <;> rw [h2] at eb <;> simp [h1, h2] at h ea eb ⊢ <;> omega

theorem rank_same_key (a b : Nat) (ha : a < 18446744073709551616) (hb : b < 18446744073709551616) (na : nanB a = false) (nb : nanB b = false) (h : rankB a = rankB b) : a = b := by
  unfold rankB at h; rw [na, nb] at h
  have ea := neg_iff a ha
  have eb := neg_iff b hb
  cases h1 : neg a <;> cases h2 : neg b <;> rw [h1] at ea <;> rw [h2] at eb <;> simp [h1, h2] at h ea eb <;> omega

theorem rank_nan (a : Nat) (na : nanB a = true) : rankB a = 18446744073709551615 := by unfold rankB; rw [na]; rfl
theorem rank_max (a : Nat) (ha : a < 18446744073709551616) (na : nanB a = false) : rankB a < 18446744073709551615 := by
  unfold rankB; rw [na]
  have ea := neg_iff a ha
  have en := nanB_iff a
  rw [na] at en
  cases h1 : neg a <;> rw [h1] at ea <;> simp [h1] at ea en ⊢ <;> omega

/-- What the reference says of two numbers (not NaN), bit by bit. -/
theorem below_eq (a b : Nat) (ha : a < 18446744073709551616) (hb : b < 18446744073709551616) :
    belowB a b = if a % 9223372036854775808 = 0 ∧ b % 9223372036854775808 = 0 then false
      else if decide (9223372036854775808 ≤ a) != decide (9223372036854775808 ≤ b) then decide (9223372036854775808 ≤ a)
      else if 9223372036854775808 ≤ a then decide (b % 9223372036854775808 < a % 9223372036854775808) else decide (a % 9223372036854775808 < b % 9223372036854775808) := by
  unfold belowB key sgn
  rw [neg_iff a ha, neg_iff b hb]
  unfold rung H
  by_cases h1 : 9223372036854775808 ≤ a <;> by_cases h2 : 9223372036854775808 ≤ b <;> by_cases h3 : a % 9223372036854775808 = 0 <;> by_cases h4 : b % 9223372036854775808 = 0 <;>
    simp only [h1, h2, h3, h4, decide_true, decide_false, if_true, if_false, true_and, false_and, and_self, and_true, and_false, bne_self_eq_false, Bool.false_eq_true, bne_iff_ne, ne_eq, not_true_eq_false, not_false_eq_true, reduceCtorEq, Bool.true_eq_false] <;>
    first | (rw [decide_eq_false_iff_not]; omega) | (rw [decide_eq_true_iff]; omega) | (rw [decide_eq_decide]; omega) | skip

def belowS (s t : Bool) (x y : Nat) : Bool := if x = 0 ∧ y = 0 then false else if s != t then s else if s then decide (y < x) else decide (x < y)
theorem below_eq' (a b : Nat) (ha : a < 18446744073709551616) (hb : b < 18446744073709551616) :
    belowB a b = belowS (decide (9223372036854775808 ≤ a)) (decide (9223372036854775808 ≤ b)) (a % 9223372036854775808) (b % 9223372036854775808) := by
  rw [below_eq a b ha hb]; unfold belowS; simp only [decide_eq_true_iff]

theorem holds_ref (op : Int) (a b : Nat) :
    holdsB op a b = if nanB a || nanB b then decide (op = 2) else
      if op = 1 then !belowB a b && !belowB b a else if op = 2 then belowB a b || belowB b a else if op = 3 then belowB a b
      else if op = 4 then !belowB b a else if op = 5 then belowB b a else decide (op = 6) && !belowB a b := by
  unfold holdsB eqB ltB belowB
  have ho : op = 1 ∨ op = 2 ∨ op = 3 ∨ op = 4 ∨ op = 5 ∨ (op ≠ 1 ∧ op ≠ 2 ∧ op ≠ 3 ∧ op ≠ 4 ∧ op ≠ 5) := by omega
  rcases Int.lt_trichotomy (key a) (key b) with h | h | h
  · have h1 : ¬ key b < key a := by omega
    have h2 : ¬ key a = key b := by omega
    rcases ho with rfl | rfl | rfl | rfl | rfl | ⟨o1, o2, o3, o4, o5⟩ <;> cases nanB a <;> cases nanB b <;> simp_all
  · rcases ho with rfl | rfl | rfl | rfl | rfl | ⟨o1, o2, o3, o4, o5⟩ <;> cases nanB a <;> cases nanB b <;> simp_all
  · have h1 : ¬ key a < key b := by omega
    have h2 : ¬ key a = key b := by omega
    rcases ho with rfl | rfl | rfl | rfl | rfl | ⟨o1, o2, o3, o4, o5⟩ <;> cases nanB a <;> cases nanB b <;> simp_all
end Go.Proofs.Ytceocpohdckkoaa.Fl
