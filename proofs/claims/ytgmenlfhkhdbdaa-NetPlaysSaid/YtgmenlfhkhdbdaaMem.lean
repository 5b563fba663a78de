/- What calls do to memory: which blocks may have turned. -/
import Derived.WalkKit
import Derived.Deep.Draws
namespace Go.Proofs.Ytgmenlfhkhdbdaa.Mem
open Go.RowKit
set_option linter.unusedSimpArgs false
set_option linter.unusedVariables false

/-- From w to w' only the blocks of R may have turned; new ones may have come. -/
structure Mod (w w' : World) (R : List Nat) : Prop where
  os : w'.os = w.os
  tape : w'.tape = w.tape
  output : w'.output = w.output
  size : w.heap.size ≤ w'.heap.size
  block : ∀ k, k < w.heap.size → k ∉ R → w'.heap[k]? = w.heap[k]?

theorem Mod.refl (w : World) (R : List Nat) : Mod w w R := ⟨rfl, rfl, rfl, Nat.le_refl _, fun _ _ _ => rfl⟩
theorem Mod.trans {a b c : World} {R R' : List Nat} (h : Mod a b R) (k : Mod b c R') (hr : ∀ r ∈ R', r ∈ R ∨ a.heap.size ≤ r) : Mod a c R :=
  ⟨k.os.trans h.os, k.tape.trans h.tape, k.output.trans h.output, Nat.le_trans h.size k.size, fun i hi hn =>
    (k.block i (Nat.lt_of_lt_of_le hi h.size) (fun hm => by rcases hr i hm with h1 | h1; exact hn h1; omega)).trans (h.block i hi hn)⟩
theorem Mod.trans0 {a b c : World} {R : List Nat} (h : Mod a b R) (k : Mod b c []) : Mod a c R := h.trans k (by simp)
theorem Mod.weak {a b : World} {R R' : List Nat} (h : Mod a b R) (hr : ∀ r ∈ R, r ∈ R' ∨ a.heap.size ≤ r) : Mod a b R' :=
  ⟨h.os, h.tape, h.output, h.size, fun k hk hn => h.block k hk (fun hm => by rcases hr k hm with h1 | h1; exact hn h1; omega)⟩
theorem Mod.weak0 {a b : World} {R : List Nat} (h : Mod a b []) : Mod a b R := h.weak (by simp)
theorem Mod.drew {a b : World} {R : List Nat} (h : Mod a b R) : Mod a b.drew R := ⟨h.os, h.tape, h.output, h.size, h.block⟩
theorem Mod.drewN {a b : World} {R : List Nat} (h : Mod a b R) : ∀ n, Mod a (b.drewN n) R
  | 0 => h
  | n + 1 => (h.drewN n).drew
theorem Mod.alloc {a b : World} {R : List Nat} (h : Mod a b R) (o : Obj) : Mod a (b.alloc o) R :=
  h.trans (R' := []) ⟨rfl, rfl, rfl, by simp, fun k hk _ => Below.heap_alloc _ _ _ hk⟩ (by simp)
theorem Mod.setCell {a b : World} {R : List Nat} (h : Mod a b R) {p : Addr} (hp : p.block ∈ R ∨ a.heap.size ≤ p.block) (u : Value) : Mod a (b.setCell p u) R :=
  h.trans (R' := [p.block]) ⟨rfl, rfl, rfl, by simp [World.setCell], fun k hk hn => Below.heap_setCell _ _ _ _ (by simpa using hn)⟩ (by simpa using hp)
theorem Mod.grown {a b c : World} {R : List Nat} {row : Option Nat} (h : Mod a b R) (hg : b.grownBy c row) (hr : ∀ k, row = some k → k ∈ R ∨ a.heap.size ≤ k) : Mod a c R :=
  ⟨hg.os.trans h.os, hg.tape.trans h.tape, hg.output.trans h.output, Nat.le_trans h.size hg.size, fun k hk hn =>
    (hg.block k (Nat.lt_of_lt_of_le hk h.size) (fun e => by rcases hr k e.symm with h1 | h1; exact hn h1; omega)).trans (h.block k hk hn)⟩
theorem Mod.below {a b : World} {R : List Nat} {B : Nat} (h : Mod a b R) (hB : B ≤ a.heap.size) (hr : ∀ r ∈ R, B ≤ r) : Below B a b :=
  ⟨h.os, h.tape, h.output, h.size, fun k hk => h.block k (by omega) (fun hm => by have := hr k hm; omega)⟩
theorem Mod.below0 {a b : World} (h : Mod a b []) : Below a.heap.size a b := h.below (Nat.le_refl _) (by simp)
theorem Mod.of_below {a b : World} (h : Below a.heap.size a b) : Mod a b [] := ⟨h.os, h.tape, h.output, h.size, fun k hk _ => h.block k hk⟩

theorem Mod.cell {a b : World} {R : List Nat} (h : Mod a b R) {p : Addr} (hp : p.block < a.heap.size) (hn : p.block ∉ R) : b.cell? p = a.cell? p := World.cell?_of_block (h.block _ hp hn)
theorem Mod.frozen {a b : World} {R : List Nat} (h : Mod a b R) {p : Addr} (hp : p.block < a.heap.size) (hn : p.block ∉ R) : b.frozen? p = a.frozen? p := World.frozen?_of_block (h.block _ hp hn)

/-- A block of cells, whole. -/
def Blk (w : World) (g : Nat) (cs : Array Value) (t : TypeId) : Prop := w.heap[g]? = some (.cells cs t (0, 0))

theorem Blk.lt {w : World} {g : Nat} {cs : Array Value} {t : TypeId} (h : Blk w g cs t) : g < w.heap.size := by
  unfold Blk at h
  by_cases hg : g < w.heap.size
  · exact hg
  · rw [Array.getElem?_eq_none (by omega)] at h; cases h
theorem Blk.cell {w : World} {g : Nat} {cs : Array Value} {t : TypeId} (h : Blk w g cs t) (i : Nat) : w.cell? ⟨g, i, none⟩ = cs[i]? := by
  unfold Blk at h; simp [World.cell?, h]
theorem Blk.free {w : World} {g : Nat} {cs : Array Value} {t : TypeId} (h : Blk w g cs t) (i : Nat) : w.frozen? ⟨g, i, none⟩ = false := by
  unfold Blk at h; simp [World.frozen?, h]
theorem Blk.set {w : World} {g : Nat} {cs : Array Value} {t : TypeId} (h : Blk w g cs t) (i : Nat) (v : Value) : Blk (w.setCell ⟨g, i, none⟩ v) g (cs.setIfInBounds i v) t := by
  unfold Blk at *; simp [World.setCell, Array.getElem?_modify, h]
theorem Blk.far {w : World} {g : Nat} {cs : Array Value} {t : TypeId} (h : Blk w g cs t) {p : Addr} (hne : g ≠ p.block) (v : Value) : Blk (w.setCell p v) g cs t := by
  unfold Blk at *; rw [Below.heap_setCell _ _ _ _ hne]; exact h
theorem Blk.alloc {w : World} {g : Nat} {cs : Array Value} {t : TypeId} (h : Blk w g cs t) (o : Obj) : Blk (w.alloc o) g cs t := by
  have hl := h.lt
  unfold Blk at *; rw [Below.heap_alloc _ _ _ hl]; exact h
theorem Blk.drew {w : World} {g : Nat} {cs : Array Value} {t : TypeId} (h : Blk w g cs t) : Blk w.drew g cs t := h
theorem Blk.drewN {w : World} {g : Nat} {cs : Array Value} {t : TypeId} (h : Blk w g cs t) : ∀ n, Blk (w.drewN n) g cs t
  | 0 => h
  | n + 1 => (h.drewN n).drew
theorem Blk.mod {w w' : World} {g : Nat} {cs : Array Value} {t : TypeId} {R : List Nat} (h : Blk w g cs t) (m : Mod w w' R) (hn : g ∉ R) : Blk w' g cs t := by
  have hl := h.lt
  unfold Blk at *; rw [m.block g hl hn]; exact h
theorem Blk.new (w : World) (cs : Array Value) (t : TypeId) : Blk (w.alloc (.cells cs t)) w.heap.size cs t := by
  unfold Blk; show (w.heap.push _)[w.heap.size]? = _; simp
theorem Blk.below {w w' : World} {g : Nat} {cs : Array Value} {t : TypeId} {B : Nat} (h : Blk w g cs t) (m : Below B w w') (hn : g < B) : Blk w' g cs t := by
  unfold Blk at *; rw [m.block g hn]; exact h
theorem own_ge {w : World} {base : Nat} {e : TypeId} {size : Nat} {v : Value} {n : Nat} {xs : List Value} (h : w.ownsRow base e size v n xs) : ∀ k, v.ownBlock = some k → base ≤ k := by
  intro k hk
  obtain ⟨_, ⟨rfl, _⟩ | ⟨g, cap, cur, rfl, hg, _⟩⟩ := h
  · cases hk
  · simp only [Value.ownBlock, Option.some.injEq] at hk; omega
theorem own_mod {w w' : World} {base : Nat} {e : TypeId} {size : Nat} {v : Value} {n : Nat} {xs : List Value} {R : List Nat} (h : w.ownsRow base e size v n xs) (m : Mod w w' R) (hR : ∀ k, v.ownBlock = some k → k ∉ R) : w'.ownsRow base e size v n xs := by
  obtain ⟨h0, ⟨rfl, h1⟩ | ⟨g, cap, cur, rfl, hg, hb, h2⟩⟩ := h
  · exact ⟨h0, .inl ⟨rfl, h1⟩⟩
  · refine ⟨h0, .inr ⟨g, cap, cur, rfl, hg, ?_, h2⟩⟩
    have hb' : Blk w g cur e := hb
    exact hb'.mod m (hR g rfl)
/-- The cells of an owned row. -/
theorem own_cell {w : World} {base : Nat} {e : TypeId} {v : Value} {n : Nat} {xs : List Value} (h : w.ownsRow base e 1 v n xs) :
    (v = .slice none 0 0 ∧ n = 0 ∧ xs = []) ∨ ∃ g cap, v = .slice (some ⟨g, 0, none⟩) n cap ∧ base ≤ g ∧ n ≤ cap ∧ cap ≤ maxLen ∧ xs.length = n ∧ ∀ i (hi : i < xs.length), w.cell? ⟨g, i, none⟩ = some xs[i] := by
  obtain ⟨h0, ⟨rfl, h1⟩ | ⟨g, cap, cur, rfl, hg, hb, h2, h3, h4, h5⟩⟩ := h
  · left
    subst h1
    exact ⟨rfl, rfl, List.eq_nil_of_length_eq_zero (by omega)⟩
  · right
    refine ⟨g, cap, rfl, hg, h2, h3, by omega, fun i hi => ?_⟩
    have hb' : Blk w g cur e := hb
    rw [hb'.cell]
    subst h5
    rw [List.getElem_take, Array.getElem_toList, Array.getElem?_eq_getElem]
end Go.Proofs.Ytgmenlfhkhdbdaa.Mem
