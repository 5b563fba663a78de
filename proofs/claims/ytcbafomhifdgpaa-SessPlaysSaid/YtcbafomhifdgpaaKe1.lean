/- Tracks: what they are, which may be, their texts; how they lie in memory. -/
import Derived.Test.YtcbafomhifdgpaaBits1
import Derived.Test.YtcbafomhifdgpaaRd
namespace Go.Proofs.Ytcbafomhifdgpaa.Ke
open Go.RowKit Mem Bits
set_option linter.unusedSimpArgs false
set_option linter.unusedVariables false
set_option maxRecDepth 100000

structure Run where
  b : Int
  st : Int
  s : Int
  seen : Nat
  ps : List Int
structure Trk where
  c : Int
  st : Int
  lo : Int
  rs : List Run
def isI (n : Int) : Prop := -9223372036854775808 ≤ n ∧ n ≤ 9223372036854775807
structure RunOK (r : Run) : Prop where
  b : isI r.b
  st : isI r.st
  s : isI r.s
  seen : r.seen < 18446744073709551616
  ps : ∀ x ∈ r.ps, isI x
structure TrkOK (t : Trk) : Prop where
  c : isI t.c
  st : isI t.st
  lo : isI t.lo
  rs : ∀ r ∈ t.rs, RunOK r

def gi (l : List Int) (i : Nat) : Int := l[i]?.getD 0
theorem gi_get {l : List Int} {i : Nat} (h : i < l.length) : gi l i = l[i] := by unfold gi; rw [List.getElem?_eq_getElem h]; rfl
def risB (l : List Int) : Bool := (List.range (l.length - 1)).all fun i => decide (gi l i < gi l (i + 1))
theorem risB_iff (l : List Int) : risB l = true ↔ ∀ i, i + 1 < l.length → gi l i < gi l (i + 1) := by
  unfold risB
  rw [List.all_eq_true]
  constructor
  · intro h i hi; exact of_decide_eq_true (h i (List.mem_range.2 (by omega)))
  · intro h i hi; exact decide_eq_true (h i (by have := List.mem_range.1 hi; omega))
/-- Can a run be kept? -/
structure RunP (r : Run) : Prop where
  st : 0 ≤ r.st
  s0 : 0 ≤ r.s
  s1 : r.s ≤ 63
  n0 : 1 ≤ r.ps.length
  n1 : r.ps.length ≤ 15
  first : gi r.ps 0 = r.b
  b0 : 0 ≤ r.b
  last : gi r.ps (r.ps.length - 1) ≤ 549755813888
  ris : risB r.ps = true
instance (r : Run) : Decidable (RunP r) :=
  decidable_of_iff (0 ≤ r.st ∧ 0 ≤ r.s ∧ r.s ≤ 63 ∧ 1 ≤ r.ps.length ∧ r.ps.length ≤ 15 ∧ gi r.ps 0 = r.b ∧ 0 ≤ r.b ∧ gi r.ps (r.ps.length - 1) ≤ 549755813888 ∧ risB r.ps = true)
    ⟨fun ⟨a, b, c, d, e, f, g, h, i⟩ => ⟨a, b, c, d, e, f, g, h, i⟩, fun ⟨a, b, c, d, e, f, g, h, i⟩ => ⟨a, b, c, d, e, f, g, h, i⟩⟩
def runB (r : Run) : Bool := decide (RunP r)
def runsB (l : List Run) : Bool := l.all runB
def trkB (t : Trk) : Bool := (decide (0 ≤ t.c ∧ t.c ≤ 549755813888) && decide (0 ≤ t.lo ∧ t.lo ≤ 549755813888)) && (decide (0 ≤ t.st) && (decide (t.rs.length ≤ 64) && runsB t.rs))

/-- Texts. -/
def numI (n : Int) : ByteArray := Bt.numS n.toNat
def difS (ps : List Int) : Nat → ByteArray → ByteArray
  | 0, s => s
  | k + 1, s => difS ps k s ++ numI (gi ps (k + 1) - gi ps k - 1)
def runS (s : ByteArray) (r : Run) : ByteArray := ((((s ++ numI r.b) ++ numI r.st) ++ numI r.s) ++ Bt.numS r.seen) ++ numI r.ps.length
def runT (s : ByteArray) (r : Run) : ByteArray := difS r.ps (r.ps.length - 1) (runS s r)
def headT (t : Trk) : ByteArray := ((numI t.c ++ numI t.st) ++ numI t.lo) ++ numI t.rs.length
def trkT (t : Trk) (i : Nat) : ByteArray := (t.rs.take i).foldl runT (headT t)
def textT (t : Trk) : ByteArray := trkT t t.rs.length
theorem trkT_succ (t : Trk) (i : Nat) (h : i < t.rs.length) : trkT t (i + 1) = runT (trkT t i) t.rs[i] := by
  unfold trkT
  rw [List.take_succ_eq_append_getElem h, List.foldl_append]
  rfl

theorem numI_size (n : Int) : 1 ≤ (numI n).size ∧ (numI n).size ≤ 9 := by
  unfold numI; exact ⟨Bt.numS_size_pos _, Bt.numS_size_le _⟩

/-- A slice of whole numbers. -/
def IntsAt (w : World) (v : Value) (l : List Int) : Prop :=
  (l = [] ∧ ∃ a cap, v = .slice a 0 cap) ∨ ∃ b off cap, v = .slice (some ⟨b, off, none⟩) l.length cap ∧ l.length ≤ cap ∧ cap ≤ maxLen ∧ ∀ i (hi : i < l.length), w.cell? ⟨b, off + i, none⟩ = some (.int .i64 l[i])
structure RunC (w : World) (b o : Nat) (r : Run) : Prop where
  c0 : w.cell? ⟨b, o, none⟩ = some (.int .i64 r.b)
  c1 : w.cell? ⟨b, o + 1, none⟩ = some (.int .i64 r.st)
  c2 : w.cell? ⟨b, o + 2, none⟩ = some (.int .i64 r.s)
  c3 : w.cell? ⟨b, o + 3, none⟩ = some (.int .u64 r.seen)
  c4 : ∃ v, w.cell? ⟨b, o + 4, none⟩ = some v ∧ IntsAt w v r.ps
def RunsAt (w : World) (v : Value) (l : List Run) : Prop :=
  (l = [] ∧ ∃ a cap, v = .slice a 0 cap) ∨ ∃ b off cap, v = .slice (some ⟨b, off, none⟩) l.length cap ∧ l.length ≤ cap ∧ cap ≤ maxLen ∧ ∀ i (hi : i < l.length), RunC w b (off + i * 5) l[i]

theorem cell_lt {w : World} {p : Addr} {v : Value} (h : w.cell? p = some v) : p.block < w.heap.size := by
  by_cases hg : p.block < w.heap.size
  · exact hg
  · exfalso
    simp [World.cell?, Array.getElem?_eq_none (by omega : w.heap.size ≤ p.block)] at h
theorem keepC {a b : World} (m : Mod a b []) {p : Addr} {u : Value} (h : a.cell? p = some u) : b.cell? p = some u := (m.cell (cell_lt h) (by simp)).trans h
theorem IntsAt.mod {w w' : World} {v : Value} {l : List Int} (h : IntsAt w v l) (m : Mod w w' []) : IntsAt w' v l := by
  rcases h with h | ⟨b, off, cap, h1, h2, h3, h4⟩
  · exact .inl h
  · exact .inr ⟨b, off, cap, h1, h2, h3, fun i hi => keepC m (h4 i hi)⟩
theorem RunC.mod {w w' : World} {b o : Nat} {r : Run} (h : RunC w b o r) (m : Mod w w' []) : RunC w' b o r := by
  obtain ⟨v, h4, h5⟩ := h.c4
  exact ⟨keepC m h.c0, keepC m h.c1, keepC m h.c2, keepC m h.c3, v, keepC m h4, h5.mod m⟩
theorem RunsAt.mod {w w' : World} {v : Value} {l : List Run} (h : RunsAt w v l) (m : Mod w w' []) : RunsAt w' v l := by
  rcases h with h | ⟨b, off, cap, h1, h2, h3, h4⟩
  · exact .inl h
  · exact .inr ⟨b, off, cap, h1, h2, h3, fun i hi => (h4 i hi).mod m⟩
theorem IntsAt.shape {w : World} {v : Value} {l : List Int} (h : IntsAt w v l) : ∃ a cap, v = .slice a l.length cap ∧ (l ≠ [] → ∃ b off, a = some ⟨b, off, none⟩ ∧ l.length ≤ cap ∧ cap ≤ maxLen ∧ ∀ i (hi : i < l.length), w.cell? ⟨b, off + i, none⟩ = some (.int .i64 l[i])) := by
  rcases h with ⟨rfl, a, cap, rfl⟩ | ⟨b, off, cap, rfl, h2, h3, h4⟩
  · exact ⟨a, cap, rfl, fun h => absurd rfl h⟩
  · exact ⟨_, cap, rfl, fun _ => ⟨b, off, rfl, h2, h3, h4⟩⟩
theorem RunsAt.shape {w : World} {v : Value} {l : List Run} (h : RunsAt w v l) : ∃ a cap, v = .slice a l.length cap ∧ (l ≠ [] → ∃ b off, a = some ⟨b, off, none⟩ ∧ l.length ≤ cap ∧ cap ≤ maxLen ∧ ∀ i (hi : i < l.length), RunC w b (off + i * 5) l[i]) := by
  rcases h with ⟨rfl, a, cap, rfl⟩ | ⟨b, off, cap, rfl, h2, h3, h4⟩
  · exact ⟨a, cap, rfl, fun h => absurd rfl h⟩
  · exact ⟨_, cap, rfl, fun _ => ⟨b, off, rfl, h2, h3, h4⟩⟩

abbrev runV (r : Run) (v : Value) : Value := .agg #[.int .i64 r.b, .int .i64 r.st, .int .i64 r.s, .int .u64 r.seen, v]
abbrev trkV (t : Trk) (v : Value) : Value := .agg #[.int .i64 t.c, .int .i64 t.st, .int .i64 t.lo, v]

/-- Arguments. -/
abbrev runSh : Open.Sh := .st (.cat (.int .i64) (.cat (.int .i64) (.cat (.int .i64) (.cat (.int .u64) (.cat (.sl (.int .i64) 8) .nil)))))
abbrev trkSh : Open.Sh := .st (.cat (.int .i64) (.cat (.int .i64) (.cat (.int .i64) (.cat (.sl runSh 56) .nil))))
theorem wf_i64 {n : Int} (h : (Lit.int .i64 n).wf = true) : isI n := by
  simpa [isI, Lit.wf, IntKind.min, IntKind.max, IntKind.signed, IntKind.bits] using h
theorem ints_rd {w : World} {v : Value} (h : Open.Rd w (.sl (.int .i64) 8) [v]) : ∃ l, IntsAt w v l ∧ (∀ x ∈ l, isI x) ∧ l.length * 8 ≤ 140737488351232 := by
  obtain ⟨u, rows, hv, ⟨ad, cap, rfl, hc1, hc2, hn, hpos, hcell⟩, hlen, hl1, hrd⟩ := h
  obtain rfl : v = _ := by simpa using hv
  obtain ⟨l, rfl, hl⟩ := Open.rows_map (rows := rows) (fun n : Int => [Value.int .i64 n]) isI (fun r hr => by
    obtain ⟨n, rfl, hwf⟩ := hrd r hr
    exact ⟨n, rfl, wf_i64 hwf⟩)
  refine ⟨l, ?_, hl, by simpa using hlen⟩
  rw [List.length_map] at *
  by_cases h0 : l = []
  · subst h0; exact .inl ⟨rfl, ad, cap, rfl⟩
  · obtain ⟨b, off, rfl⟩ := hpos (by simpa using h0) (by decide)
    refine .inr ⟨b, off, cap, rfl, hc1, hc2, fun k hk => ?_⟩
    have := (hcell b off rfl k (by simpa using hk) 0 (by decide)).1
    simpa [Open.Sh.cells] using this
theorem trk_rd {w : World} {ca : Array Value} (h : Open.Rd w trkSh ca.toList) : ∃ (t : Trk) (v : Value), ca = #[.int .i64 t.c, .int .i64 t.st, .int .i64 t.lo, v] ∧ RunsAt w v t.rs ∧ TrkOK t ∧ t.rs.length ≤ 140737488351232 ∧ ∀ r ∈ t.rs, r.ps.length ≤ 140737488351232 := by
  obtain ⟨x0, y0, e0, ⟨n0, rfl, w0⟩, x1, y1, rfl, ⟨n1, rfl, w1⟩, x2, y2, rfl, ⟨n2, rfl, w2⟩, x3, y3, rfl, hs, rfl⟩ := h
  obtain ⟨v, rows, rfl, ⟨ad, cap, rfl, hc1, hc2, hn, hpos, hcell⟩, hlen, hl1, hrd⟩ := hs
  let f : Run × Value → List Value := fun x => [.int .i64 x.1.b, .int .i64 x.1.st, .int .i64 x.1.s, .int .u64 (x.1.seen : Int), x.2]
  obtain ⟨l, rfl, hl⟩ := Open.rows_map (rows := rows) f (fun x => RunOK x.1 ∧ IntsAt w x.2 x.1.ps ∧ x.1.ps.length ≤ 140737488351232) (fun r hr => by
    obtain ⟨x0, y0, rfl, ⟨n0, rfl, w0⟩, x1, y1, rfl, ⟨n1, rfl, w1⟩, x2, y2, rfl, ⟨n2, rfl, w2⟩, x3, y3, rfl, ⟨n3, rfl, w3⟩, x4, y4, rfl, hp, rfl⟩ := hrd r hr
    obtain ⟨u, rows', rfl, h2, h3, h4, h5⟩ := hp
    obtain ⟨ps, q1, q2, q3⟩ := ints_rd ⟨u, rows', rfl, h2, h3, h4, h5⟩
    obtain ⟨p3, q4⟩ : 0 ≤ n3 ∧ n3 ≤ 18446744073709551615 := by simpa [Lit.wf, IntKind.min, IntKind.max, IntKind.signed, IntKind.bits] using w3
    refine ⟨⟨⟨n0, n1, n2, n3.toNat, ps⟩, u⟩, ?_, ⟨wf_i64 w0, wf_i64 w1, wf_i64 w2, by show n3.toNat < _; omega, q2⟩, q1, by show ps.length ≤ _; omega⟩
    show _ = [Value.int .i64 n0, .int .i64 n1, .int .i64 n2, .int .u64 ((n3.toNat : Nat) : Int), u]
    rw [Int.toNat_of_nonneg p3]; rfl)
  refine ⟨⟨n0, n1, n2, l.map (·.1)⟩, .slice ad (l.map f).length cap, Array.ext' (by rw [e0]; rfl), ?_, ⟨wf_i64 w0, wf_i64 w1, wf_i64 w2, fun r hr => ?_⟩, ?_, fun r hr => ?_⟩
  · by_cases h0 : l = []
    · subst h0; exact .inl ⟨rfl, ad, cap, rfl⟩
    · obtain ⟨b, off, rfl⟩ := hpos (by simpa using h0) (by decide)
      refine .inr ⟨b, off, cap, by simp, by simpa using hc1, hc2, fun i hi => ?_⟩
      have hi' : i < l.length := by simpa using hi
      have h := fun c hc => (hcell b off rfl i (by simpa using hi) c hc).1
      simp only [List.getElem_map, f] at h
      have hx := hl _ (List.getElem_mem hi')
      simp only [List.getElem_map]
      exact ⟨h 0 (by decide), h 1 (by decide), h 2 (by decide), h 3 (by decide), _, h 4 (by decide), hx.2.1⟩
  · obtain ⟨x, hx, rfl⟩ := List.mem_map.1 hr
    exact (hl x hx).1
  · have : l.length * 56 ≤ 140737488351232 := by simpa using hlen
    show (l.map (·.1)).length ≤ _
    rw [List.length_map]; omega
  · obtain ⟨x, hx, rfl⟩ := List.mem_map.1 hr
    exact (hl x hx).2.2
end Go.Proofs.Ytcbafomhifdgpaa.Ke
