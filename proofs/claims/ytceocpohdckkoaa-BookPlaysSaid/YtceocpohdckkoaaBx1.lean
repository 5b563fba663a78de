/- Books in memory: rows of numbers, the matches that are kept; what stays where memory turns. -/
import Derived.Test.YtceocpohdckkoaaMem
import Derived.Test.YtceocpohdckkoaaRow
import Derived.Test.YtceocpohdckkoaaHe
import Derived.Test.YtceocpohdckkoaaFx
import Derived.Test.YtceocpohdckkoaaProg
import Derived.WalkKit
import Derived.WalkSpells
import Derived.WalkLawsBesides
import Derived.KernelRfl
import Derived.Lib.Hide
import Derived.Deep.RegionWith
import Derived.ProofKit
import Derived.ArgAppend
import Derived.Deep.AppendLies
import Derived.Lib.Walk
namespace Go.Proofs.Ytceocpohdckkoaa.Bx
open Go.RowKit Mem
set_option linter.unusedSimpArgs false
set_option linter.unusedVariables false
set_option maxRecDepth 100000

abbrev tM : TypeId := 32
abbrev tI : TypeId := 3
abbrev tK : TypeId := 87
abbrev iv (x : Int) : Value := .int .i64 x
abbrev slV (b n c : Nat) : Value := .slice (some ⟨b, 0, none⟩) n c

/-- Whatever block of cells was there is there as it was. -/
def Kept (A B : World) : Prop := ∀ (k : Nat) cs (t : TypeId) z, A.heap[k]? = some (.cells cs t z) → B.heap[k]? = some (.cells cs t z)
theorem Kept.refl (A : World) : Kept A A := fun _ _ _ _ h => h
theorem Kept.trans {A B C : World} (h : Kept A B) (k : Kept B C) : Kept A C := fun i cs t z hi => k i cs t z (h i cs t z hi)
theorem heap_lt {A : World} {k : Nat} {o : Obj} (h : A.heap[k]? = some o) : k < A.heap.size := by
  by_cases hg : k < A.heap.size
  · exact hg
  · rw [Array.getElem?_eq_none (by omega)] at h; cases h
theorem Kept.mod {A B : World} (m : Mod A B []) : Kept A B := fun k cs t z h => (m.block k (heap_lt h) (by simp)).trans h
theorem Kept.blk {A B : World} (h : Kept A B) {g : Nat} {cs : Array Value} {t : TypeId} (hb : Blk A g cs t) : Blk B g cs t := h g cs t _ hb
theorem Kept.own {A B : World} (h : Kept A B) {base : Nat} {e : TypeId} {size : Nat} {v : Value} {n : Nat} {xs : List Value} (ho : A.ownsRow base e size v n xs) : B.ownsRow base e size v n xs := by
  obtain ⟨h0, ⟨rfl, h1⟩ | ⟨g, cap, cur, rfl, hg, hb, h2⟩⟩ := ho
  · exact ⟨h0, .inl ⟨rfl, h1⟩⟩
  · exact ⟨h0, .inr ⟨g, cap, cur, rfl, hg, h _ _ _ _ hb, h2⟩⟩
theorem Kept.cell {A B : World} (h : Kept A B) {p : Addr} {u : Value} (hc : A.cell? p = some u) : B.cell? p = some u := by
  unfold World.cell? at *
  split at hc
  · rename_i cs t z hh
    rw [h _ _ _ _ hh]
    exact hc
  · cases hc

def gi (l : List Int) (i : Nat) : Int := l.getD i 0
theorem gi_eq {l : List Int} {i : Nat} (h : i < l.length) : l[i] = gi l i := by unfold gi; simp [List.getD, h]
/-- A row of numbers, wherever it begins. -/
def IntsC (A : World) (u : Value) (xs : List Int) : Prop :=
  ∃ b off cap, u = .slice (some ⟨b, off, none⟩) xs.length cap ∧ xs.length ≤ cap ∧ ∀ i, i < xs.length → A.cell? ⟨b, off + i, none⟩ = some (iv (gi xs i))
theorem IntsC.kept {A B : World} {u : Value} {xs : List Int} (h : IntsC A u xs) (k : Kept A B) : IntsC B u xs := by
  obtain ⟨b, off, cap, h1, h2, h3⟩ := h
  exact ⟨b, off, cap, h1, h2, fun i hi => k.cell (h3 i hi)⟩

/-- A row that the book keeps: a block of its own, none of X. -/
def RowAt (A : World) (X : Nat → Prop) (u : Value) (xs : List Int) : Prop :=
  ∃ b cap, u = slV b xs.length cap ∧ ¬ X b ∧ xs ≠ [] ∧ A.ownsRow 0 tI 1 u xs.length (xs.map iv)
theorem RowAt.kept {A B : World} {X : Nat → Prop} {u : Value} {xs : List Int} (h : RowAt A X u xs) (k : Kept A B) : RowAt B X u xs := by
  obtain ⟨b, cap, h1, h2, h3, h4⟩ := h
  exact ⟨b, cap, h1, h2, h3, k.own h4⟩
theorem own_blk {w : World} {base : Nat} {e : TypeId} {size : Nat} {v : Value} {n : Nat} {xs : List Value} (h : w.ownsRow base e size v n xs) : ∀ g, v.ownBlock = some g → ∃ cur, Blk w g cur e := by
  obtain ⟨h0, ⟨rfl, h1⟩ | ⟨g, cap, cur, rfl, hg, hb, h2⟩⟩ := h
  · intro g hg; cases hg
  · intro k hk
    simp only [Value.ownBlock, Option.some.injEq] at hk
    subst hk
    exact ⟨cur, hb⟩
theorem RowAt.ints {A : World} {X : Nat → Prop} {u : Value} {xs : List Int} (h : RowAt A X u xs) : IntsC A u xs := by
  obtain ⟨b, cap, rfl, h2, h3, h4⟩ := h
  rcases own_cell h4 with ⟨h, _⟩ | ⟨g, cap', hv, _, h5, _, h6, h7⟩
  · cases h
  · injection hv with e1 e2 e3
    injection e1 with e1
    injection e1 with e1
    subst e1 e3
    refine ⟨b, 0, cap, rfl, h5, fun i hi => ?_⟩
    have := h7 i (by simpa using hi)
    rw [Nat.zero_add, this, List.getElem_map, gi_eq hi]
theorem own_putB {w : World} {base : Nat} {e : TypeId} {size : Nat} {v : Value} {n : Nat} {xs : List Value} (h : w.ownsRow base e size v n xs) {p : Addr} {y : Value} (hne : ∀ k, v.ownBlock = some k → k ≠ p.block) : (w.setCell p y).ownsRow base e size v n xs := by
  obtain ⟨h0, ⟨rfl, h1⟩ | ⟨g, cap, cur, rfl, hg, hb, h2⟩⟩ := h
  · exact ⟨h0, .inl ⟨rfl, h1⟩⟩
  · refine ⟨h0, .inr ⟨g, cap, cur, rfl, hg, ?_, h2⟩⟩
    have hb' : Blk w g cur e := hb
    exact hb'.far (hne g rfl) _
theorem RowAt.put {A : World} {X : Nat → Prop} {u : Value} {xs : List Int} (h : RowAt A X u xs) {k : Nat} (hk : X k) (i : Nat) (y : Value) : RowAt (A.setCell ⟨k, i, none⟩ y) X u xs := by
  obtain ⟨b, cap, h1, h2, h3, h4⟩ := h
  refine ⟨b, cap, h1, h2, h3, own_putB h4 (fun j hj => ?_)⟩
  rw [h1] at hj
  simp only [Value.ownBlock, Option.some.injEq] at hj
  rintro rfl
  exact h2 (hj ▸ hk)
theorem RowAt.lt {A : World} {X : Nat → Prop} {u : Value} {xs : List Int} (h : RowAt A X u xs) : ∃ b cap, u = slV b xs.length cap ∧ b < A.heap.size := by
  obtain ⟨b, cap, h1, h2, h3, h4⟩ := h
  exact ⟨b, cap, h1, Rw.own_lt h4 b (by rw [h1]; rfl)⟩
theorem RowAt.weak {A : World} {X Y : Nat → Prop} {u : Value} {xs : List Int} (h : RowAt A X u xs) (hw : ∀ k, k < A.heap.size → Y k → X k) : RowAt A Y u xs := by
  obtain ⟨b, cap, h1, hlt⟩ := h.lt
  obtain ⟨b', cap', h1', h2, h3, h4⟩ := h
  refine ⟨b', cap', h1', fun hy => h2 (hw _ ?_ hy), h3, h4⟩
  have := h1.symm.trans h1'
  injection this with e1 _ _
  injection e1 with e1
  injection e1 with e1
  omega

/-- The slice of the matches: one that is owned, or one that is cut and full. -/
def ListAt (A : World) (N : Nat) (v : Value) (us : List Value) : Prop :=
  A.ownsRow N tM 1 v us.length us ∨ ∃ p : Addr, v = .slice (some p) us.length us.length ∧ (∃ cs, Blk A p.block cs tM) ∧ (us ≠ [] → ∃ b off cs, p = ⟨b, off, none⟩ ∧ N ≤ b ∧ Blk A b cs tM ∧ ∀ j (hj : j < us.length), cs[off + j]? = some us[j])
theorem ListAt.lt {A : World} {N : Nat} {v : Value} {us : List Value} (h : ListAt A N v us) : ∀ k, v.ownBlock = some k → k < A.heap.size := by
  rcases h with h | ⟨p, rfl, ⟨cs, h0⟩, h2⟩
  · exact Rw.own_lt h
  · intro k hk
    simp only [Value.ownBlock, Option.some.injEq] at hk
    subst hk
    exact h0.lt
theorem ListAt.kept {A B : World} {N : Nat} {v : Value} {us : List Value} (h : ListAt A N v us) (k : Kept A B) : ListAt B N v us := by
  rcases h with h | ⟨p, h1, ⟨cs, h0⟩, h2⟩
  · exact .inl (k.own h)
  · refine .inr ⟨p, h1, ⟨cs, k.blk h0⟩, fun hne => ?_⟩
    obtain ⟨b, off, cs, q1, q2, q3, q4⟩ := h2 hne
    exact ⟨b, off, cs, q1, q2, k.blk q3, q4⟩
theorem ListAt.put {A : World} {N : Nat} {v : Value} {us : List Value} (h : ListAt A N v us) {k : Nat} {cs : Array Value} {t : TypeId} (hb : Blk A k cs t) (ht : t ≠ tM) (i : Nat) (y : Value) : ListAt (A.setCell ⟨k, i, none⟩ y) N v us := by
  have hne : ∀ j cur, Blk A j cur tM → j ≠ k := by
    rintro j cur hj rfl
    unfold Blk at hj hb
    rw [hb] at hj
    injection hj with hj
    injection hj with _ hj
    exact ht hj
  rcases h with h | ⟨p, h1, ⟨cs0, h0'⟩, h2⟩
  · exact .inl (own_putB h (fun j hj => by obtain ⟨cur, hc⟩ := own_blk h j hj; exact hne j cur hc))
  · refine .inr ⟨p, h1, ⟨cs0, h0'.far (hne _ _ h0') _⟩, fun h0 => ?_⟩
    obtain ⟨b, off, cs', q1, q2, q3, q4⟩ := h2 h0
    exact ⟨b, off, cs', q1, q2, q3.far (hne b _ q3) _, q4⟩
theorem ListAt.slice {A : World} {N : Nat} {v : Value} {us : List Value} (h : ListAt A N v us) : ∃ a c, v = .slice a us.length c ∧ us.length ≤ c := by
  rcases h with h | ⟨p, h1, _, _⟩
  · rcases own_cell h with ⟨h1, h2, _⟩ | ⟨g, cap, h1, _, h2, _⟩
    · exact ⟨none, 0, by rw [h1, h2], by omega⟩
    · exact ⟨_, _, h1, h2⟩
  · exact ⟨_, _, h1, Nat.le_refl _⟩
theorem ListAt.cells {A : World} {N : Nat} {v : Value} {us : List Value} (h : ListAt A N v us) (hne : us ≠ []) : ∃ b off cap, v = .slice (some ⟨b, off, none⟩) us.length cap ∧ us.length ≤ cap ∧ N ≤ b ∧ (∃ cs, Blk A b cs tM) ∧ ∀ j (hj : j < us.length), A.cell? ⟨b, off + j, none⟩ = some us[j] := by
  rcases h with h | ⟨p, h1, _, h2⟩
  · rcases own_cell h with ⟨_, h2, _⟩ | ⟨g, cap, h1, h3, h2, _, _, h4⟩
    · exact absurd (List.eq_nil_of_length_eq_zero h2) hne
    · obtain ⟨cur, hb⟩ := own_blk h g (by rw [h1]; rfl)
      exact ⟨g, 0, cap, h1, h2, h3, ⟨cur, hb⟩, fun j hj => by rw [Nat.zero_add]; exact h4 j hj⟩
  · obtain ⟨b, off, cs, q1, q2, q3, q4⟩ := h2 hne
    subst q1
    exact ⟨b, off, us.length, h1, Nat.le_refl _, q2, ⟨cs, q3⟩, fun j hj => by rw [q3.cell]; exact q4 j hj⟩

inductive All2 {α β : Type} (R : α → β → Prop) : List α → List β → Prop
  | nil : All2 R [] []
  | cons {a b l m} (h : R a b) (t : All2 R l m) : All2 R (a :: l) (b :: m)

/-- A book in memory. -/
def BookAt (A : World) (N : Nat) (X : Nat → Prop) (g : Nat) (base : Int) (rows : List (List Int)) : Prop :=
  N ≤ g ∧ ∃ v us, Blk A g #[iv base, v] tK ∧ ListAt A N v us ∧ All2 (RowAt A X) us rows
theorem all2_mono {R S : Value → List Int → Prop} (h : ∀ u xs, R u xs → S u xs) : ∀ {us : List Value} {rows : List (List Int)}, All2 R us rows → All2 S us rows
  | _, _, .nil => .nil
  | _, _, .cons h1 h2 => .cons (h _ _ h1) (all2_mono h h2)
theorem all2_len {R : Value → List Int → Prop} : ∀ {us : List Value} {rows : List (List Int)}, All2 R us rows → us.length = rows.length
  | _, _, .nil => rfl
  | _, _, .cons _ h => by simp [all2_len h]
theorem all2_get {R : Value → List Int → Prop} : ∀ {us : List Value} {rows : List (List Int)}, All2 R us rows → ∀ i (h1 : i < us.length) (h2 : i < rows.length), R us[i] rows[i]
  | _, _, .cons h _, 0, _, _ => h
  | _, _, .cons _ h, i + 1, h1, h2 => all2_get h i (by simpa using h1) (by simpa using h2)
theorem all2_drop {R : Value → List Int → Prop} : ∀ {us : List Value} {rows : List (List Int)}, All2 R us rows → ∀ n, All2 R (us.drop n) (rows.drop n)
  | _, _, h, 0 => h
  | _, _, .nil, n + 1 => .nil
  | _, _, .cons _ h, n + 1 => all2_drop h n
theorem all2_snoc {R : Value → List Int → Prop} {u : Value} {r : List Int} (hr : R u r) : ∀ {us : List Value} {rows : List (List Int)}, All2 R us rows → All2 R (us ++ [u]) (rows ++ [r])
  | _, _, .nil => .cons hr .nil
  | _, _, .cons h1 h2 => .cons h1 (all2_snoc hr h2)
theorem BookAt.kept {A B : World} {N : Nat} {X : Nat → Prop} {g : Nat} {base : Int} {rows : List (List Int)} (h : BookAt A N X g base rows) (k : Kept A B) : BookAt B N X g base rows := by
  obtain ⟨hN, v, us, h1, h2, h3⟩ := h
  exact ⟨hN, v, us, k.blk h1, h2.kept k, all2_mono (fun _ _ h => h.kept k) h3⟩
theorem BookAt.mod {A B : World} {N : Nat} {X : Nat → Prop} {g : Nat} {base : Int} {rows : List (List Int)} (h : BookAt A N X g base rows) (m : Mod A B []) : BookAt B N X g base rows := h.kept (.mod m)
theorem BookAt.put {A : World} {N : Nat} {X : Nat → Prop} {g : Nat} {base : Int} {rows : List (List Int)} (h : BookAt A N X g base rows) {k : Nat} {cs : Array Value} (hb : Blk A k cs tI) (hk : X k) (i : Nat) (y : Value) : BookAt (A.setCell ⟨k, i, none⟩ y) N X g base rows := by
  obtain ⟨hN, v, us, h1, h2, h3⟩ := h
  refine ⟨hN, v, us, h1.far (p := ⟨k, i, none⟩) ?_ _, h2.put hb (by decide) _ _, all2_mono (fun _ _ h => h.put hk _ _) h3⟩
  rintro rfl
  unfold Blk at h1 hb
  rw [hb] at h1
  injection h1 with h1
  injection h1 with _ h1
  exact absurd h1 (by decide)
theorem BookAt.weak {A : World} {N : Nat} {X Y : Nat → Prop} {g : Nat} {base : Int} {rows : List (List Int)} (h : BookAt A N X g base rows) (hw : ∀ k, k < A.heap.size → Y k → X k) : BookAt A N Y g base rows := by
  obtain ⟨hN, v, us, h1, h2, h3⟩ := h
  exact ⟨hN, v, us, h1, h2, all2_mono (fun _ _ h => h.weak hw) h3⟩
theorem BookAt.rows {A : World} {N : Nat} {X : Nat → Prop} {g : Nat} {base : Int} {rows : List (List Int)} (h : BookAt A N X g base rows) : ∃ a c, Blk A g #[iv base, .slice a rows.length c] tK := by
  obtain ⟨hN, v, us, h1, h2, h3⟩ := h
  obtain ⟨a, c, rfl, _⟩ := h2.slice
  rw [all2_len h3] at h1
  exact ⟨a, c, h1⟩

/-- From w to w' the book's own cells alone have turned: its block, and blocks of matches; below N nothing has. -/
structure Bw (N g : Nat) (w w' : World) : Prop where
  below : Below N w w'
  keep : ∀ k o, w.heap[k]? = some o → k ≠ g → (∀ cs z, o ≠ .cells cs tM z) → w'.heap[k]? = some o
theorem Bw.refl (N g : Nat) (w : World) : Bw N g w w := ⟨Below.refl _ _, fun _ _ h _ _ => h⟩
theorem Bw.trans {N g : Nat} {a b c : World} (h : Bw N g a b) (k : Bw N g b c) : Bw N g a c := ⟨h.below.trans k.below, fun i o hi h1 h2 => k.keep i o (h.keep i o hi h1 h2) h1 h2⟩
theorem Bw.mod {N g : Nat} {a b : World} (hN : N ≤ a.heap.size) (m : Mod a b []) : Bw N g a b := ⟨m.below hN (by simp), fun k o h _ _ => (m.block k (heap_lt h) (by simp)).trans h⟩
theorem Bw.blk {N g : Nat} {a b : World} (h : Bw N g a b) {k : Nat} {cs : Array Value} {t : TypeId} (hb : Blk a k cs t) (hk : k ≠ g) (ht : t ≠ tM) : Blk b k cs t :=
  h.keep k _ hb hk (fun cs z e => by injection e with _ e; exact ht e)
theorem Bw.row {N g : Nat} {a b : World} (h : Bw N g a b) {X : Nat → Prop} {u : Value} {xs : List Int} (hr : RowAt a X u xs) (hg : ∃ cs, Blk a g cs tK) : RowAt b X u xs := by
  obtain ⟨bb, cap, h1, h2, h3, h0, ⟨h4, _⟩ | ⟨g', cap', cur, h4, h5, h6, h7⟩⟩ := hr
  · rw [h1] at h4; cases h4
  · have hne : g' ≠ g := by
      rintro rfl
      obtain ⟨cs, hc⟩ := hg
      unfold Blk at hc
      rw [h6] at hc
      injection hc with hc
      injection hc with _ hc
      exact absurd hc (by decide)
    exact ⟨bb, cap, h1, h2, h3, h0, .inr ⟨g', cap', cur, h4, h5, h.keep g' _ h6 hne (fun cs z e => by injection e with _ e; exact absurd e (by decide)), h7⟩⟩
end Go.Proofs.Ytceocpohdckkoaa.Bx
