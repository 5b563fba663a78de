/- Books: acts that come in; rows that count. -/
import Derived.Test.YtceocpohdckkoaaBx9
import Derived.Test.YtceocpohdckkoaaRd
namespace Go.Proofs.Ytceocpohdckkoaa.Bx
open Go.RowKit Mem
set_option linter.unusedSimpArgs false
set_option linter.unusedVariables false
set_option maxRecDepth 100000

abbrev bactSh : Open.Sh := .st (.cat (.int .i64) (.cat (.int .i64) (.cat (.int .i64) (.cat (.sl (.int .i64) 8) .nil))))
/-- An act that came in. -/
structure Ac where
  k : Int
  a : Int
  b : Int
  u : Value
  xs : List Int
def i64 (n : Int) : Prop := -9223372036854775808 ≤ n ∧ n ≤ 9223372036854775807
theorem i64_of {n : Int} (h : (Lit.int .i64 n).wf = true) : i64 n := by
  unfold i64
  simpa [Lit.wf, IntKind.min, IntKind.max, IntKind.signed, IntKind.bits] using h
theorem ints_rd {w : World} {a : Value} (h : Open.Rd w (.sl (.int .i64) 8) [a]) : ∃ xs : List Int, IntsR w a xs ∧ xs.length ≤ 140737488351232 ∧ ∃ ad cap, a = .slice ad xs.length cap := by
  obtain ⟨v, rows, hv, ⟨ad, cap, rfl, hc1, hc2, hn, hpos, hcell⟩, hlen, hl1, hrd⟩ := h
  obtain rfl : a = _ := by simpa using hv
  obtain ⟨l, rfl, hl⟩ := Open.rows_map (rows := rows) (fun x : Int => [Value.int .i64 x]) (fun _ => True) (fun r hr => by
    obtain ⟨x, rfl, _⟩ := hrd r hr
    exact ⟨x, rfl, trivial⟩)
  refine ⟨l, ?_, by simp at hlen; omega, ad, cap, by rw [List.length_map]⟩
  by_cases h0 : l = []
  · subst h0
    exact .inl ⟨rfl, ad, cap, rfl⟩
  · obtain ⟨b, off, rfl⟩ := hpos (by simpa using h0) (by decide)
    refine .inr ⟨b, off, cap, by rw [List.length_map], by simpa using hc1, fun i hi => ?_⟩
    have h := (hcell b off rfl i (by simpa using hi) 0 (by decide)).1
    simp only [List.getElem_map, Open.Sh.cells, Nat.mul_one, Nat.add_zero] at h
    rw [h, gi_eq hi]
    rfl
theorem acts_rd {w : World} {a : Value} (h : Open.Rd w (.sl bactSh 48) [a]) : ∃ (l : List Ac) (ad : Option Addr) (cap : Nat), a = .slice ad l.length cap ∧ l.length ≤ cap ∧ l.length ≤ 140737488351232 ∧
    (∀ x ∈ l, i64 x.k ∧ i64 x.a ∧ i64 x.b ∧ IntsR w x.u x.xs ∧ x.xs.length ≤ 140737488351232 ∧ ∃ ad cap, x.u = .slice ad x.xs.length cap) ∧
    (l = [] ∨ ∃ b off, ad = some ⟨b, off, none⟩ ∧ ∀ i (hi : i < l.length), w.cell? ⟨b, off + i * 4, none⟩ = some (.int .i64 l[i].k) ∧ w.cell? ⟨b, off + i * 4 + 1, none⟩ = some (.int .i64 l[i].a) ∧ w.cell? ⟨b, off + i * 4 + 2, none⟩ = some (.int .i64 l[i].b) ∧ w.cell? ⟨b, off + i * 4 + 3, none⟩ = some l[i].u) := by
  obtain ⟨v, rows, hv, ⟨ad, cap, rfl, hc1, hc2, hn, hpos, hcell⟩, hlen, hl1, hrd⟩ := h
  obtain rfl : a = _ := by simpa using hv
  obtain ⟨l, rfl, hl⟩ := Open.rows_map (rows := rows) (fun x : Ac => [Value.int .i64 x.k, .int .i64 x.a, .int .i64 x.b, x.u])
    (fun x => i64 x.k ∧ i64 x.a ∧ i64 x.b ∧ IntsR w x.u x.xs ∧ x.xs.length ≤ 140737488351232 ∧ ∃ ad cap, x.u = .slice ad x.xs.length cap) (fun r hr => by
    obtain ⟨x0, y0, rfl, ⟨n0, rfl, w0⟩, x1, y1, rfl, ⟨n1, rfl, w1⟩, x2, y2, rfl, ⟨n2, rfl, w2⟩, x3, y3, rfl, h3, rfl⟩ := hrd r hr
    obtain ⟨u, rfl⟩ : ∃ u, x3 = [u] := by obtain ⟨v, _, rfl, _⟩ := h3; exact ⟨v, rfl⟩
    obtain ⟨xs, q1, q2, q3⟩ := ints_rd h3
    exact ⟨⟨n0, n1, n2, u, xs⟩, rfl, i64_of w0, i64_of w1, i64_of w2, q1, q2, q3⟩)
  refine ⟨l, ad, cap, by simp, by simpa using hc1, by simp at hlen; omega, hl, ?_⟩
  by_cases h0 : l = []
  · exact .inl h0
  · obtain ⟨b, off, rfl⟩ := hpos (by simpa using h0) (by decide)
    refine .inr ⟨b, off, rfl, fun i hi => ?_⟩
    have h := fun c hc => (hcell b off rfl i (by simpa using hi) c hc).1
    simp only [List.getElem_map] at h
    exact ⟨h 0 (by decide), h 1 (by decide), h 2 (by decide), h 3 (by decide)⟩

/-- n matches from base on, each its own number. -/
def sq (base : Int) (n : Nat) : List (List Int) := (List.range n).map (fun (i : Nat) => [base + (i : Int)])
theorem sq_len (base : Int) (n : Nat) : (sq base n).length = n := by unfold sq; simp
theorem sq_get (base : Int) (n i : Nat) (h : i < (sq base n).length) : (sq base n)[i] = [base + (i : Int)] := by
  have h' : (sq base n)[i]? = some [base + (i : Int)] := by
    rw [sq_len] at h
    unfold sq
    simp [h]
  exact (List.getElem?_eq_some_iff.1 h').2
theorem sq_snoc (base : Int) (n : Nat) : sq base n ++ [[base + (n : Int)]] = sq base (n + 1) := by unfold sq; rw [List.range_succ, List.map_append]; rfl
theorem sq_drop (base : Int) (n d : Nat) : (sq base n).drop d = sq (base + d) (n - d) := by
  apply List.ext_getElem
  · rw [List.length_drop, sq_len, sq_len]
  · intro i h1 h2
    rw [List.getElem_drop, sq_get, sq_get]
    congr 1
    push_cast
    omega
theorem sq_take (base : Int) (n m : Nat) : (sq base n).take m = sq base (min m n) := by
  apply List.ext_getElem
  · rw [List.length_take, sq_len, sq_len]
  · intro i h1 h2
    rw [List.getElem_take, sq_get, sq_get]
theorem sq_16 (base : Int) (n : Nat) : ∀ r ∈ sq base n, r.length ≤ 16 := by
  intro r hr
  obtain ⟨i, _, rfl⟩ := List.mem_map.1 hr
  simp
theorem may_one {x : Int} (h0 : 0 ≤ x) (h1 : x ≤ 549755813888) : mayB [x] = true := by
  unfold mayB rising gi
  simp [h0, h1]
theorem put_sq (base : Int) (n : Nat) (h0 : 0 ≤ base) (h1 : base + n < 549755813888) (hn : n ≤ 64) :
    ∃ (base' : Int) (n' : Nat), putS base (sq base n) [base + (n : Int)] = (0, base', sq base' n') ∧ base' + n' = base + n + 1 ∧ n' ≤ 64 ∧ base ≤ base' ∧ (n' : Int) ≥ 1 := by
  unfold putS
  rw [if_pos (may_one (by omega) (by omega)), sq_len, if_neg (by omega), sq_snoc]
  by_cases h : 64 < n + 1
  · rw [if_pos h, sq_drop]
    exact ⟨base + 1, n, rfl, by omega, hn, by omega, by omega⟩
  · rw [if_neg h]
    exact ⟨base, n + 1, rfl, by push_cast; omega, by omega, by omega, by push_cast; omega⟩
theorem forget_sq (base : Int) (n : Nat) (a : Int) (hn : n ≤ 64) :
    ∃ (c base' : Int) (n' : Nat), forgetS base (sq base n) a = (c, base', sq base' n') ∧ base' + n' = base + n ∧ n' ≤ 64 ∧ base ≤ base' := by
  unfold forgetS
  rw [sq_len]
  by_cases h : a < 0 ∨ base + (n : Int) < a
  · rw [if_pos h]
    exact ⟨_, base, n, rfl, rfl, hn, by omega⟩
  rw [if_neg h]
  by_cases h2 : base < a
  · rw [if_pos h2, sq_drop]
    refine ⟨0, a, n - (a - base).toNat, ?_, by omega, by omega, by omega⟩
    rw [show base + ((a - base).toNat : Int) = a by omega]
  · rw [if_neg h2]
    exact ⟨_, base, n, rfl, rfl, hn, by omega⟩
theorem read_sq (base : Int) (n : Nat) (f m : Int) (h0 : 0 ≤ base) (hf : base ≤ f) (hm : 0 ≤ m) :
    ∃ q : Nat, readS base (sq base n) f m = (sq f q, f + q, 0) ∧ (q : Int) ≤ m ∧ ((q : Int) < m → base + n ≤ f + q) ∧ (q = 0 ∨ f + q ≤ base + n) ∧ q ≤ n := by
  unfold readS
  rw [if_neg (by omega), if_neg (by omega), sq_drop, sq_take, sq_len, show base + ((f - base).toNat : Int) = f by omega]
  exact ⟨_, rfl, by omega, by omega, by omega, by omega⟩
end Go.Proofs.Ytceocpohdckkoaa.Bx
