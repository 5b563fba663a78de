/- Books: what a text says, plain; number. -/
import Derived.Test.YtceocpohdckkoaaBxD
import Derived.Test.YtceocpohdckkoaaBits5
namespace Go.Proofs.Ytceocpohdckkoaa.Bx
open Go.RowKit Mem Bits
set_option linter.unusedSimpArgs false
set_option linter.unusedVariables false
set_option maxRecDepth 100000

/-- A number that is not above another one, or -1. -/
def capN (most n : Nat) : Int := if most < n then -1 else (n : Int)
theorem capN_lo (m n : Nat) : -1 ≤ capN m n := by unfold capN; split <;> omega
theorem capN_hi (m n : Nat) : capN m n ≤ m := by unfold capN; split <;> omega
/-- A tape: what is left, and the error. -/
structure Tp where
  s : ByteArray
  e : Int
def Tp.n (t : Tp) : Nat := tN t.s t.e
def Tp.next (t : Tp) : Tp := ⟨tS t.s t.e, tE t.s t.e⟩
/-- k numbers, one behind the other. -/
def rdL (most : Nat) : Nat → Tp → List Int × Tp
  | 0, t => ([], t)
  | k + 1, t => let r := rdL most k t; (r.1 ++ [capN most r.2.n], r.2.next)
theorem rdL_len (most : Nat) : ∀ k t, (rdL most k t).1.length = k
  | 0, _ => rfl
  | k + 1, t => by unfold rdL; simp [rdL_len most k t]
theorem rdL_bd (most : Nat) : ∀ k t, ∀ x ∈ (rdL most k t).1, -1 ≤ x ∧ x ≤ most
  | 0, _, x, h => by simp [rdL] at h
  | k + 1, t, x, h => by
    unfold rdL at h
    rcases List.mem_append.1 h with h | h
    · exact rdL_bd most k t x h
    · obtain rfl : x = _ := by simpa using h
      exact ⟨capN_lo _ _, capN_hi _ _⟩
/-- A match's text. -/
def rowD (t : Tp) : List Int × Tp := rdL 549755813888 (capN 16 t.n).toNat t.next
theorem rowD_16 (t : Tp) : (rowD t).1.length ≤ 16 := by
  unfold rowD
  rw [rdL_len]
  have := capN_hi 16 t.n
  omega
/-- k matches' texts; none if one of them may not be. -/
def rowsD : Nat → Tp → Option (List (List Int) × Tp)
  | 0, t => some ([], t)
  | k + 1, t => match rowsD k t with
    | none => none
    | some (l, u) => if mayB (rowD u).1 then some (l ++ [(rowD u).1], (rowD u).2) else none
theorem rowsD_none {k : Nat} {t : Tp} (h : rowsD k t = none) : ∀ j, rowsD (k + j) t = none
  | 0 => h
  | j + 1 => by
    show rowsD (k + j + 1) t = none
    unfold rowsD
    rw [rowsD_none h j]
theorem rowsD_len : ∀ {k : Nat} {t : Tp} {l : List (List Int)} {u : Tp}, rowsD k t = some (l, u) → l.length = k ∧ (∀ r ∈ l, mayB r = true) ∧ ∀ r ∈ l, r.length ≤ 16
  | 0, t, l, u, h => by
    unfold rowsD at h
    injection h with h
    injection h with h1 _
    subst h1
    exact ⟨rfl, by simp, by simp⟩
  | k + 1, t, l, u, h => by
    unfold rowsD at h
    cases hk : rowsD k t with
    | none => rw [hk] at h; cases h
    | some q =>
      obtain ⟨l', u'⟩ := q
      rw [hk] at h
      simp only at h
      by_cases hm : mayB (rowD u').1 = true
      · rw [if_pos hm] at h
        injection h with h
        injection h with h1 _
        obtain ⟨i1, i2, i3⟩ := rowsD_len hk
        subst h1
        refine ⟨by simp [i1], ?_, ?_⟩
        · intro r hr
          rcases List.mem_append.1 hr with h | h
          · exact i2 r h
          · obtain rfl : r = _ := by simpa using h
            exact hm
        · intro r hr
          rcases List.mem_append.1 hr with h | h
          · exact i3 r h
          · obtain rfl : r = _ := by simpa using h
            exact rowD_16 _
      · rw [if_neg hm] at h; cases h
/-- The book that a text says. -/
def loadD (s : ByteArray) : Option (Int × List (List Int)) :=
  let t0 : Tp := ⟨s, 0⟩
  let base := capN 549755813888 t0.n
  let n := capN 64 t0.next.n
  match rowsD n.toNat t0.next.next with
  | none => none
  | some (l, u) => if endE u.s u.e = 0 ∧ 0 ≤ base ∧ 0 ≤ n ∧ base + l.length ≤ 549755813888 then some (base, l) else none

abbrev TpAt (w : World) (g : Nat) (t : Tp) : Prop := TapeAt w g t.s t.e
theorem Tp.next_size (t : Tp) : t.next.s.size ≤ t.s.size := tS_size _ _
theorem number_calls (g : Nat) (t : Tp) (most : Nat) (w : World) (hs : t.s.size ≤ 9007199254740992) (hm : most ≤ 549755813888) (hb : TpAt w g t) :
    Calls Try.prog 56 #[ptr g, .int .u64 (most : Int)] w fun e w' => e = .returned (.int .i64 (capN most t.n)) ∧ Mod w w' [g] ∧ TpAt w' g t.next := by
  have NC := Lib.hid (Num_calls g t.s t.e w hs hb)
  have hlt := tN_lt t.s t.e
  have HU : Hid (capN most t.n = if most < tN t.s t.e then -1 else ((tN t.s t.e : Nat) : Int)) := Lib.hid rfl
  have HT := Lib.hid (show Tp.next t = ⟨tS t.s t.e, tE t.s t.e⟩ from rfl)
  unfold TpAt
  clear hb
  generalize tN t.s t.e = n at *
  by_cases h : most < n
  · have h' : (most : Int) < (n : Int) := by omega
    have hr := Lib.hid (show (-1 : Int) = capN most t.n by rw [HU.out, if_pos h])
    go_enter Try.func56, Try.ntmps56
    go_wp2_with fail
    (with_reducible refine NC.out.mono ?_)
    rintro e w1 ⟨rfl, hm1, ht1⟩
    have HM := Lib.hid hm1
    have HT1 := Lib.hid ht1
    clear hm1 ht1
    go_wp2_with fail
    go_ret
    exact ⟨by rw [← hr.out]; rfl, HM.out, HT1.out⟩
  · have h' : (n : Int) ≤ most := by omega
    have hr := Lib.hid (show (n : Int) = capN most t.n by rw [HU.out, if_neg h])
    have hw := IntWalk.i64_in (n : Int) (by omega)
    go_enter Try.func56, Try.ntmps56
    go_wp2_with fail
    (with_reducible refine NC.out.mono ?_)
    rintro e w1 ⟨rfl, hm1, ht1⟩
    have HM := Lib.hid hm1
    have HT1 := Lib.hid ht1
    clear hm1 ht1
    go_wp2_with fail
    go_ret
    exact ⟨by rw [← hr.out]; rfl, HM.out, HT1.out⟩
end Go.Proofs.Ytceocpohdckkoaa.Bx
