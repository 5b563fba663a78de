/- For NetOnce: rows of numbers and of flags that were made; plain facts. -/
import Derived.Test.YtgmenlfhkhdbdaaNt7
import Derived.Test.YtgmenlfhkhdbdaaRd
namespace Go.Proofs.Ytgmenlfhkhdbdaa.Nt
open Go.RowKit Mem Nm Ra
open Ag (It AgW AgT Keep insI woI dueI leftI hasI AddP ItAt soon)
set_option linter.unusedSimpArgs false
set_option linter.unusedVariables false
set_option maxRecDepth 100000

def bools (n : Nat) (c : Nat → Bool) : Array Value := ((List.range n).map fun j => Value.bool (c j)).toArray
theorem bools_get {n : Nat} {c : Nat → Bool} {j : Nat} (h : j < n) : (bools n c)[j]? = some (.bool (c j)) := by
  unfold bools
  simp [List.getElem?_map, List.getElem?_range h]
theorem bools_set (n : Nat) (c : Nat → Bool) (j : Nat) : (bools n c).setIfInBounds j (.bool true) = bools n (fun k => c k || k == j) := by
  unfold bools
  rw [List.setIfInBounds_toArray]
  congr 1
  apply List.ext_getElem?
  intro k
  rw [List.getElem?_set]
  simp only [List.length_map, List.length_range, List.getElem?_map]
  by_cases h : j = k
  · subst h
    rw [if_pos rfl]
    by_cases hj : j < n
    · rw [if_pos hj, List.getElem?_range hj]; simp
    · rw [if_neg hj, List.getElem?_eq_none (by simpa using hj)]; rfl
  · rw [if_neg h]
    by_cases hk : k < n
    · rw [List.getElem?_range hk]; simp; intro e; exact absurd e.symm h
    · rw [List.getElem?_eq_none (by simpa using hk)]; rfl
theorem bools_congr {n : Nat} {c d : Nat → Bool} (h : ∀ j, j < n → c j = d j) : bools n c = bools n d := by
  unfold bools
  congr 1
  apply List.map_congr_left
  intro j hj
  rw [h j (by simpa using hj)]
theorem info_bool : (Try.prog.info? 4).map (fun i => (i.zero, i.size, i.bytes)) = some (some (.bool false), 1, 1) := by kernel_rfl
theorem make_bools (n : Nat) (hn : n ≤ 100000) (w : World) : (Instr.makeSlice 35 (.int .i64 (n : Int)) (.int .i64 (n : Int))).run Try.prog w = .ok (.slice (some ⟨w.heap.size, 0, none⟩) n n) (w.alloc (.cells (bools n (fun _ => false)) 4)) := by
  obtain ⟨i0, hi0, hz0, hz1, hz2⟩ := info_parts info_bool
  have h := run_makeSlice w 35 4 i0 _ Try.underlying35 hi0 hz0 .i64 .i64 (n : Int) (n : Int) (by omega) (Int.le_refl _) (by rw [hz1]; simp; omega) (by rw [hz2]; omega) (by omega)
  rw [h, hz1]
  simp only [Int.toNat_natCast, Nat.mul_one]
  have e : madeCells (Value.bool false).cells n = bools n (fun _ => false) := by
    apply Array.ext
    · simp [madeCells, bools]
    · intro k h1 h2
      simp [madeCells, bools, Value.cells, Nat.mod_one]
  rw [e]
def intsA (n : Nat) (c : Nat → Int) : Array Value := ((List.range n).map fun j => Value.int .i64 (c j)).toArray
theorem intsA_get {n : Nat} {c : Nat → Int} {j : Nat} (h : j < n) : (intsA n c)[j]? = some (.int .i64 (c j)) := by
  unfold intsA
  simp [List.getElem?_map, List.getElem?_range h]
theorem intsA_set (n : Nat) (c : Nat → Int) (j : Nat) (x : Int) : (intsA n c).setIfInBounds j (.int .i64 x) = intsA n (fun k => if k = j then x else c k) := by
  unfold intsA
  rw [List.setIfInBounds_toArray]
  congr 1
  apply List.ext_getElem?
  intro k
  rw [List.getElem?_set]
  simp only [List.length_map, List.length_range, List.getElem?_map]
  by_cases h : j = k
  · subst h
    rw [if_pos rfl]
    by_cases hj : j < n
    · rw [if_pos hj, List.getElem?_range hj]; simp
    · rw [if_neg hj, List.getElem?_eq_none (by simpa using hj)]; rfl
  · rw [if_neg h]
    by_cases hk : k < n
    · rw [List.getElem?_range hk]; simp; intro e; exact absurd e.symm h
    · rw [List.getElem?_eq_none (by simpa using hk)]; rfl
theorem intsA_congr {n : Nat} {c d : Nat → Int} (h : ∀ j, j < n → c j = d j) : intsA n c = intsA n d := by
  unfold intsA
  congr 1
  apply List.map_congr_left
  intro j hj
  rw [h j (by simpa using hj)]
theorem info_i : (Try.prog.info? 3).map (fun i => (i.zero, i.size, i.bytes)) = some (some (.int .i64 0), 1, 8) := by kernel_rfl
theorem make_ints (n : Nat) (hn : n ≤ 100000) (w : World) : (Instr.makeSlice 22 (.int .i64 (n : Int)) (.int .i64 (n : Int))).run Try.prog w = .ok (.slice (some ⟨w.heap.size, 0, none⟩) n n) (w.alloc (.cells (intsA n (fun _ => 0)) 3)) := by
  obtain ⟨i0, hi0, hz0, hz1, hz2⟩ := info_parts info_i
  have h := run_makeSlice w 22 3 i0 _ Try.underlying22 hi0 hz0 .i64 .i64 (n : Int) (n : Int) (by omega) (Int.le_refl _) (by rw [hz1]; simp; omega) (by rw [hz2]; omega) (by omega)
  rw [h, hz1]
  simp only [Int.toNat_natCast, Nat.mul_one]
  have e : madeCells (Value.int .i64 0).cells n = intsA n (fun _ => 0) := by
    apply Array.ext
    · simp [madeCells, intsA]
    · intro k h1 h2
      simp [madeCells, intsA, Value.cells, Nat.mod_one]
  rw [e]
theorem ints_rd {w : World} {a : Value} (h : Open.Rd w (.sl (.int .i64) 8) [a]) : ∃ (l : List Int) (ad : Option Addr) (cap : Nat), a = .slice ad l.length cap ∧ l.length ≤ 140737488351232 ∧ (∀ x ∈ l, -9223372036854775808 ≤ x ∧ x ≤ 9223372036854775807) ∧
    (l = [] ∨ ∃ b off, ad = some ⟨b, off, none⟩ ∧ ∀ k (hk : k < l.length), w.cell? ⟨b, off + k, none⟩ = some (.int .i64 l[k])) := by
  obtain ⟨v, rows, hv, ⟨ad, cap, rfl, hc1, hc2, hn, hpos, hcell⟩, hlen, hl1, hrd⟩ := h
  obtain rfl : a = _ := by simpa using hv
  obtain ⟨l, rfl, hl⟩ := Open.rows_map (rows := rows) (fun n : Int => [Value.int .i64 n]) (fun x => -9223372036854775808 ≤ x ∧ x ≤ 9223372036854775807) (fun r hr => by
    obtain ⟨n, rfl, hwf⟩ := hrd r hr
    have h0 : -9223372036854775808 ≤ n ∧ n ≤ 9223372036854775807 := by simpa [Lit.wf, IntKind.min, IntKind.max, IntKind.signed, IntKind.bits] using hwf
    exact ⟨n, rfl, h0⟩)
  refine ⟨l, ad, cap, by simp, by simp at hlen; omega, hl, ?_⟩
  by_cases h0 : l = []
  · exact .inl h0
  · obtain ⟨b, off, rfl⟩ := hpos (by simpa using h0) (by decide)
    refine .inr ⟨b, off, rfl, fun k hk => ?_⟩
    have := (hcell b off rfl k (by simpa using hk) 0 (by decide)).1
    simpa [Open.Sh.cells] using this
/-- Blocks of other types may be written. -/
theorem NetW.far {w0 A B : World} {g ag mb : Nat} {last : Int} {S : List It} {n : Nat} {M : Int → Option Ms} {C : Nat → Nat → Bool} (h : NetW w0 A g ag mb last S n M C) {q : Nat} {cs : Array Value} {t : TypeId} (hb : Blk A q cs t) (hq : w0.heap.size ≤ q) (ht : t ≠ tN) (ht2 : ¬ AgT t) (m : Mod A B [q]) : NetW w0 B g ag mb last S n M C :=
  ⟨h.md.trans m (by intro r hr; simp only [List.mem_singleton] at hr; subst hr; exact .inr hq), h.g0, h.m0, h.net.mod m (by rw [List.mem_singleton]; rintro rfl; exact ht (blk_uni hb h.net)), agw_modR h.agw m (by intro r hr; simp only [List.mem_singleton] at hr; subst hr; exact hq) (by
    intro r hr cs' ty hc
    simp only [List.mem_singleton] at hr
    subst hr
    rw [blk_uni hc hb]
    exact ht2), h.mp.mod m (by rw [List.mem_singleton]; exact h.mp.notBlk hb), h.sl, h.ok, h.ids⟩
theorem KpO.far {A B : World} {q : Nat} {cs : Array Value} {t : TypeId} (hb : Blk A q cs t) (h1 : t ≠ 33) (h2 : t ≠ 77) (m : Mod A B [q]) : KpO A B := fun k cs' ty hc ht => hc.mod m (by
  rw [List.mem_singleton]
  rintro rfl
  have := blk_uni hb hc
  rcases ht with h | h
  · exact h1 (this.trans h)
  · exact h2 (this.trans h))
theorem OutW.cell {base : Nat} {W : World} {v : Value} {xs : List (Ms × Value)} (h : OutW base W v xs) {k : Nat} (hk : k < xs.length) : ∃ gb cap, v = .slice (some ⟨gb, 0, none⟩) xs.length cap ∧ xs.length ≤ cap ∧ ∀ c, c < 13 → W.cell? ⟨gb, k * 13 + c, none⟩ = (msC xs[k].1 xs[k].2)[c]? := by
  rcases Rw.own_cellN h.own with ⟨_, h2, _⟩ | ⟨g, cap, h1, _, h3, _, h5, h6⟩
  · omega
  · refine ⟨g, cap, h1, h3, fun c hc => ?_⟩
    have hr : rowsM xs = (xs.map (fun x => msC x.1 x.2)).flatten := by unfold rowsM; rw [List.flatMap_def]
    have hlen : (rowsM xs).length = xs.length * 13 := h5
    rw [h6 (k * 13 + c) (by omega)]
    have := Rw.flat_get (n := 13) (xs.map (fun x => msC x.1 x.2)) k c (by intro r hr; obtain ⟨x, _, rfl⟩ := List.mem_map.1 hr; rfl) (by simpa using hk) hc
    rw [← hr, List.getElem_map] at this
    rw [← this, List.getElem?_eq_getElem (by omega)]
/-- The delay; an item. -/
def dl (x : Int) : Int := (x.tmod 50 + 50).tmod 50
theorem dl_bd (x : Int) : 0 ≤ dl x ∧ dl x ≤ 49 := by
  unfold dl
  have h1 := Int.tmod_lt_of_pos x (b := 50) (by omega)
  have h2 := Int.lt_tmod_of_pos x (b := 50) (by omega)
  have h3 := Int.tmod_lt_of_pos (x.tmod 50 + 50) (b := 50) (by omega)
  have h4 := Int.tmod_nonneg (50 : Int) (a := x.tmod 50 + 50) (by omega)
  omega
def atO (xs : List Int) (j : Nat) : Int := (j : Int) + dl (xs.getD j 0)
def itO (xs : List Int) (j : Nat) : It := (atO xs j, (j : Int) + 1, 0)
def askO (id : Int) : Ms := askM ((id - 1) % 7) (id % 7) id
theorem askO_check (id : Int) (h : 1 ≤ id ∧ id ≤ 1000) : checkB (askO id) = true := by
  unfold askO
  rw [ask_check _ _ _ (by omega) (by omega) (by omega)]
  have h1 : (id - 1) % 7 ≠ id % 7 := by omega
  simp [h1]
theorem outM_map {M : Int → Option Ms} {D : List It} {q : Int → Ms} (h : ∀ s ∈ D, M s.2.1 = some (q s.2.1)) : outM noC M D = D.map (fun s => q s.2.1) := by
  unfold outM
  induction D with
  | nil => rfl
  | cons a D ih =>
    rw [List.filterMap_cons, h a (by simp), ih (fun s hs => h s (by simp [hs]))]
    rfl
/-- Which came: those whose time it was. -/
def cameT (xs : List Int) (T : Int) (id : Nat) : Bool := decide (1 ≤ id) && decide (atO xs (id - 1) ≤ T)
end Go.Proofs.Ytgmenlfhkhdbdaa.Nt
