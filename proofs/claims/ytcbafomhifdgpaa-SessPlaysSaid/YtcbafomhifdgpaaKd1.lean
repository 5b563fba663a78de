/- What a text of a track says: keep's reading and the document's, plain, and that they agree. -/
import Derived.Test.YtcbafomhifdgpaaKe3
import Derived.Test.YtcbafomhifdgpaaBits5
namespace Go.Proofs.Ytcbafomhifdgpaa.Ke
open Go.RowKit Mem Bits
set_option linter.unusedSimpArgs false
set_option linter.unusedVariables false
set_option maxRecDepth 100000

abbrev St := ByteArray × Int
def nx (p : St) : St := (tS p.1 p.2, tE p.1 p.2)
def nv (p : St) : Nat := tN p.1 p.2
def limL (n most : Nat) : Int := if most < n then -1 else n
theorem limL_bd (n most : Nat) : -1 ≤ limL n most ∧ limL n most ≤ most := by unfold limL; split <;> omega

/-- keep's picks, round by round. -/
def goK (b : Int) (p : St) : Nat → List Int × St × Int
  | 0 => ([], p, b)
  | i + 1 => if i = 0 then ((goK b p i).1 ++ [(goK b p i).2.2], (goK b p i).2.1, (goK b p i).2.2)
    else ((goK b p i).1 ++ [(goK b p i).2.2 + (limL (nv (goK b p i).2.1) 549755813888 + 1)], nx (goK b p i).2.1, (goK b p i).2.2 + (limL (nv (goK b p i).2.1) 549755813888 + 1))
def runK (p : St) : Run × St :=
  (⟨limL (nv p) 549755813888, limL (nv (nx p)) 9223372036854775807, limL (nv (nx (nx p))) 64, nv (nx (nx (nx p))),
    (goK (limL (nv p) 549755813888) (nx (nx (nx (nx (nx p))))) (limL (nv (nx (nx (nx (nx p))))) 16).toNat).1⟩,
   (goK (limL (nv p) 549755813888) (nx (nx (nx (nx (nx p))))) (limL (nv (nx (nx (nx (nx p))))) 16).toNat).2.1)
def runsK (p : St) : Nat → List Run × St
  | 0 => ([], p)
  | i + 1 => ((runsK p i).1 ++ [(runK (runsK p i).2).1], (runK (runsK p i).2).2)

/-- The document's. -/
def goR (b : Int) (p : St) : Nat → Option (List Int × St × Int)
  | 0 => some ([b], p, b)
  | j + 1 => match goR b p j with
    | none => none
    | some (ps, q, k) => if 549755813888 < nv q then none else some (ps ++ [k + nv q + 1], nx q, k + nv q + 1)
def runR (p : St) : Option (Run × St) :=
  if nv (nx (nx (nx (nx p)))) < 1 ∨ 15 < nv (nx (nx (nx (nx p)))) then none else
  match goR (limL (nv p) 549755813888) (nx (nx (nx (nx (nx p))))) (nv (nx (nx (nx (nx p)))) - 1) with
  | none => none
  | some (ps, q, _) => some (⟨limL (nv p) 549755813888, limL (nv (nx p)) 9223372036854775807, limL (nv (nx (nx p))) 63, nv (nx (nx (nx p))), ps⟩, q)
def runsR (p : St) : Nat → Option (List Run × St)
  | 0 => some ([], p)
  | i + 1 => match runsR p i with
    | none => none
    | some (l, q) => match runR q with
      | none => none
      | some (r, q') => some (l ++ [r], q')

theorem goK_len (b : Int) (p : St) (i : Nat) : (goK b p i).1.length = i := by
  induction i with
  | zero => rfl
  | succ i ih => unfold goK; split <;> simp [ih]
theorem goK_bd (b : Int) (p : St) (hb : -1 ≤ b ∧ b ≤ 549755813888) (i : Nat) : (-1 ≤ (goK b p i).2.2 ∧ (goK b p i).2.2 ≤ 549755813888 + i * 549755813889) ∧ ∀ x ∈ (goK b p i).1, -1 ≤ x ∧ x ≤ 549755813888 + i * 549755813889 := by
  induction i with
  | zero => exact ⟨by show -1 ≤ b ∧ b ≤ _; omega, by intro x hx; cases hx⟩
  | succ i ih =>
    obtain ⟨h1, h2⟩ := ih
    have hl := limL_bd (nv (goK b p i).2.1) 549755813888
    unfold goK
    split
    · refine ⟨by dsimp only; omega, fun x hx => ?_⟩
      rcases List.mem_append.1 hx with hx | hx
      · have := h2 x hx; omega
      · rw [List.mem_singleton] at hx; omega
    · refine ⟨by dsimp only; omega, fun x hx => ?_⟩
      rcases List.mem_append.1 hx with hx | hx
      · have := h2 x hx; omega
      · rw [List.mem_singleton] at hx; omega
theorem gi_app_lt {l m : List Int} {i : Nat} (h : i < l.length) : gi (l ++ m) i = gi l i := by unfold gi; rw [List.getElem?_append_left h]
theorem gi_app_last (l : List Int) (x : Int) : gi (l ++ [x]) l.length = x := by unfold gi; simp
/-- The last pick is the place; the picks stay. -/
theorem goK_get (b : Int) (p : St) (i : Nat) : gi (goK b p (i + 1)).1 i = (goK b p (i + 1)).2.2 := by
  have hl := goK_len b p i
  unfold goK
  split
  · have := gi_app_last (goK b p i).1 (goK b p i).2.2; rw [hl] at this; exact this
  · have := gi_app_last (goK b p i).1 ((goK b p i).2.2 + (limL (nv (goK b p i).2.1) 549755813888 + 1)); rw [hl] at this; exact this
theorem goK_stay (b : Int) (p : St) (i : Nat) : ∀ d, ∀ j, j < i → gi (goK b p (i + d)).1 j = gi (goK b p i).1 j := by
  intro d
  induction d with
  | zero => intro j _; rfl
  | succ d ih =>
    intro j hj
    have hl := goK_len b p (i + d)
    rw [← ih j hj, ← Nat.add_assoc]
    conv => lhs; unfold goK
    split <;> exact gi_app_lt (by omega)
theorem goK_some (b : Int) (p : St) : ∀ (j : Nat) (ps : List Int) (q : St) (k : Int), goR b p j = some (ps, q, k) → goK b p (j + 1) = (ps, q, k) := by
  intro j
  induction j with
  | zero =>
    intro ps q k h
    have : ([b], p, b) = (ps, q, k) := Option.some.inj h
    rw [← this]; rfl
  | succ j ih =>
    intro ps q k h
    unfold goR at h
    split at h
    · cases h
    · rename_i ps' q' k' hg
      split at h
      · cases h
      · rename_i hn
        have hh := ih ps' q' k' hg
        have he := Option.some.inj h
        unfold goK
        rw [if_neg (by omega), hh]
        dsimp only
        have : limL (nv q') 549755813888 = nv q' := by unfold limL; rw [if_neg hn]
        rw [this, ← Int.add_assoc]
        exact he
theorem goK_none (b : Int) (p : St) : ∀ (j : Nat), goR b p j = none → ∃ i, 1 ≤ i ∧ i ≤ j ∧ gi (goK b p (j + 1)).1 i = gi (goK b p (j + 1)).1 (i - 1) := by
  intro j
  induction j with
  | zero => intro h; cases h
  | succ j ih =>
    intro h
    unfold goR at h
    split at h
    · rename_i hg
      obtain ⟨i, h1, h2, h3⟩ := ih hg
      refine ⟨i, h1, by omega, ?_⟩
      have s1 := goK_stay b p (j + 1) 1 i (by omega)
      have s2 := goK_stay b p (j + 1) 1 (i - 1) (by omega)
      rw [s1, s2]; exact h3
    · rename_i ps' q' k' hg
      split at h
      · rename_i hn
        have hh := goK_some b p j ps' q' k' hg
        refine ⟨j + 1, by omega, by omega, ?_⟩
        have g1 := goK_get b p (j + 1)
        have g2 := goK_get b p j
        have s2 := goK_stay b p (j + 1) 1 j (by omega)
        rw [g1, show j + 1 - 1 = j by omega, s2, g2]
        conv => lhs; unfold goK
        rw [if_neg (by omega)]
        dsimp only
        rw [hh]
        dsimp only
        have : limL (nv q') 549755813888 = -1 := by unfold limL; rw [if_pos hn]
        rw [this]; omega
      · cases h

/-- A run that the document gives up is none that is kept; else they are one, or both none that are kept. -/
theorem run_none (p : St) (h : runR p = none) : runB (runK p).1 = false := by
  refine decide_eq_false fun hp => ?_
  have hlen := goK_len (limL (nv p) 549755813888) (nx (nx (nx (nx (nx p))))) (limL (nv (nx (nx (nx (nx p))))) 16).toNat
  have n0 := hp.n0
  have n1 := hp.n1
  have hr := (risB_iff _).1 hp.ris
  unfold runR at h
  unfold runK at n0 n1 hr
  dsimp only at n0 n1 hr
  rw [hlen] at n0 n1 hr
  generalize nv (nx (nx (nx (nx p)))) = n at *
  by_cases h1 : n < 1 ∨ 15 < n
  · unfold limL at n0 n1
    split at n0 <;> omega
  · rw [if_neg h1] at h
    have hc : (limL n 16).toNat = n := by unfold limL; rw [if_neg (by omega)]; omega
    rw [hc] at hr
    have hg : goR (limL (nv p) 549755813888) (nx (nx (nx (nx (nx p))))) (n - 1) = none := by
      generalize goR (limL (nv p) 549755813888) (nx (nx (nx (nx (nx p))))) (n - 1) = G at h
      match G with
      | none => rfl
      | some (a, b, c) => cases h
    obtain ⟨i, i1, i2, i3⟩ := goK_none _ _ _ hg
    rw [show n - 1 + 1 = n by omega] at i3
    have := hr (i - 1) (by omega)
    rw [show i - 1 + 1 = i by omega] at this
    omega
theorem run_some (p : St) (r : Run) (q : St) (h : runR p = some (r, q)) : (runK p).2 = q ∧ runB (runK p).1 = runB r ∧ (runB r = true → (runK p).1 = r) := by
  unfold runR at h
  split at h
  · cases h
  · rename_i h1
    split at h
    · cases h
    · rename_i ps q' k hg
      have hk := goK_some _ _ _ _ _ _ hg
      have hc : (limL (nv (nx (nx (nx (nx p))))) 16).toNat = nv (nx (nx (nx (nx p)))) - 1 + 1 := by unfold limL; rw [if_neg (by omega)]; omega
      have he := Option.some.inj h
      injection he with e1 e2
      have hK : runK p = (⟨limL (nv p) 549755813888, limL (nv (nx p)) 9223372036854775807, limL (nv (nx (nx p))) 64, nv (nx (nx (nx p))), ps⟩, q') := by
        unfold runK
        rw [hc, hk]
      rw [hK]
      refine ⟨e2, ?_⟩
      rw [← e1]
      by_cases h64 : nv (nx (nx p)) = 64
      · have b1 : runB ⟨limL (nv p) 549755813888, limL (nv (nx p)) 9223372036854775807, limL (nv (nx (nx p))) 64, nv (nx (nx (nx p))), ps⟩ = false := decide_eq_false fun hp => by
          have := hp.s1; dsimp only at this; unfold limL at this; rw [if_neg (by omega)] at this; omega
        have b2 : runB ⟨limL (nv p) 549755813888, limL (nv (nx p)) 9223372036854775807, limL (nv (nx (nx p))) 63, nv (nx (nx (nx p))), ps⟩ = false := decide_eq_false fun hp => by
          have := hp.s0; dsimp only at this; unfold limL at this; rw [if_pos (by omega)] at this; omega
        rw [b1, b2]; exact ⟨rfl, fun h => by cases h⟩
      · have : limL (nv (nx (nx p))) 64 = limL (nv (nx (nx p))) 63 := by unfold limL; split <;> split <;> first | rfl | omega
        rw [this]; exact ⟨rfl, fun _ => rfl⟩
theorem runs_rel (p : St) : ∀ i, match runsR p i with
    | none => ∃ r ∈ (runsK p i).1, runB r = false
    | some (l, q) => (runsK p i).2 = q ∧ runsB (runsK p i).1 = runsB l ∧ (runsB l = true → (runsK p i).1 = l) ∧ (runsK p i).1.length = l.length := by
  intro i
  induction i with
  | zero => exact ⟨rfl, rfl, fun _ => rfl, rfl⟩
  | succ i ih =>
    unfold runsR
    cases hR : runsR p i with
    | none =>
      rw [hR] at ih
      obtain ⟨r, hr, hb⟩ := ih
      exact ⟨r, List.mem_append_left _ hr, hb⟩
    | some x =>
      obtain ⟨l, q⟩ := x
      rw [hR] at ih
      obtain ⟨h1, h2, h3, h4⟩ := ih
      dsimp only
      cases hr : runR q with
      | none =>
        dsimp only
        refine ⟨(runK (runsK p i).2).1, List.mem_append_right _ (List.mem_singleton.2 rfl), ?_⟩
        rw [h1]; exact run_none q hr
      | some y =>
        obtain ⟨r, q'⟩ := y
        obtain ⟨k1, k2, k3⟩ := run_some q r q' hr
        have hK : runsK p (i + 1) = ((runsK p i).1 ++ [(runK q).1], (runK q).2) := by
          show ((runsK p i).1 ++ [(runK (runsK p i).2).1], (runK (runsK p i).2).2) = _
          rw [h1]
        rw [hK]
        dsimp only
        refine ⟨k1, ?_, fun h => ?_, by rw [List.length_append, List.length_append, h4]; rfl⟩
        · unfold runsB at *
          rw [List.all_append, List.all_append, h2]
          simp [k2]
        · unfold runsB at h
          rw [List.all_append] at h
          simp only [List.all_cons, List.all_nil, Bool.and_true, Bool.and_eq_true] at h
          rw [h3 h.1, k3 h.2]
end Go.Proofs.Ytcbafomhifdgpaa.Ke
