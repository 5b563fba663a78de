/- A range over a function whose rounds are handed what lies in memory: what is handed in holds where the round begins. -/
import Derived.Test.YtceocpohdckkoaaMem
import Derived.RangeFuncWrites
import Derived.RangeFuncBound
import Derived.RangeFuncLeaves
import Derived.WalkKit
namespace Go.Proofs.Ytceocpohdckkoaa.Rg
open Go.RowKit Mem
set_option linter.unusedSimpArgs false
set_option linter.unusedVariables false

/-- New memory may have come; of what was there only what is no cells, from D on, may have turned. -/
structure Trn (D : Nat) (A B : World) : Prop where
  os : B.os = A.os
  tape : B.tape = A.tape
  output : B.output = A.output
  size : A.heap.size ≤ B.heap.size
  keep : ∀ k o, A.heap[k]? = some o → (k < D ∨ o.isCells = true) → B.heap[k]? = some o
theorem lt_of {A : World} {k : Nat} {o : Obj} (h : A.heap[k]? = some o) : k < A.heap.size := (Array.getElem?_eq_some_iff.1 h).1
theorem Trn.refl (D : Nat) (A : World) : Trn D A A := ⟨rfl, rfl, rfl, Nat.le_refl _, fun _ _ h _ => h⟩
theorem Trn.trans {D : Nat} {A B C : World} (h : Trn D A B) (k : Trn D B C) : Trn D A C := ⟨k.os.trans h.os, k.tape.trans h.tape, k.output.trans h.output, Nat.le_trans h.size k.size, fun i o hi ho => k.keep i o (h.keep i o hi ho) ho⟩
theorem Trn.mod {D : Nat} {A B : World} (m : Mod A B []) : Trn D A B := ⟨m.os, m.tape, m.output, m.size, fun k o h _ => (m.block k (lt_of h) (by simp)).trans h⟩
theorem Trn.turn {D l : Nat} {A : World} {o : Obj} (o' : Obj) (hD : D ≤ l) (hl : A.heap[l]? = some o) (ho : o.isCells = false) : Trn D A (A.putObj l o') := by
  refine ⟨rfl, rfl, rfl, by simp, fun k u hk hu => ?_⟩
  rw [World.putObj_heap_other (fun e => ?_)]
  · exact hk
  · subst e
    rw [hl] at hk
    injection hk with hk
    subst hk
    rcases hu with h | h
    · omega
    · rw [ho] at h; cases h
theorem Trn.kept {D : Nat} {A B : World} (h : Trn D A B) (k : Nat) (cs : Array Value) (t : TypeId) (z : Nat × Nat) (hk : A.heap[k]? = some (.cells cs t z)) : B.heap[k]? = some (.cells cs t z) := h.keep k _ hk (.inr rfl)
theorem Trn.below {D : Nat} {A B : World} (h : Trn D A B) (hD : D ≤ A.heap.size) : Below D A B :=
  ⟨h.os, h.tape, h.output, h.size, fun k hk => by
    have hlt : k < A.heap.size := by omega
    rw [h.keep k _ (Array.getElem?_eq_getElem hlt) (.inl hk), Array.getElem?_eq_getElem hlt]⟩

/-- How a round is left. -/
def endsAs {α : Type} (D : Nat) (I : List α → World → Prop) (Ix : Code → List α → World → Prop) (xs : List α) (W : World) : Exit → Act → World → Prop
  | .normal, _, W' => KeepsFrom D W W' ∧ I xs W'
  | .ret, _, W' => KeepsFrom D W W' ∧ Ix .ret xs W'
  | .exit id, _, W' => KeepsFrom D W W' ∧ Ix (.exit id) xs W'
  | .goto t, _, W' => KeepsFrom D W W' ∧ Ix (.goto t) xs W'
  | .panic _, _, _ => False
  | .outgrown, _, _ => False

/-- What an iterator promises, called with the yield of loop l: it hands over elements that hold (Hd), one behind the other, till it is told to stop. -/
def Hands {α : Type} (P : Program) (gf : Nat) (lb : Array Value) (enc : α → Value) (Hd : α → World → Prop) (K : World → Prop) (S Sp : List α → Prop) (N : Nat) (W : World) : Prop :=
  ∀ (l : Nat) (J Jx : List α → World → Prop), (∀ s A B, J s A → Mod A B [] → J s B) → (∀ s A, J s A → K A) →
    (∀ pre x W1, J pre W1 → Hd x W1 → pre.length < N → YieldAt Fence.wide 7 P l #[enc x] W1 fun e W' => (e = .returned (.bool true) ∧ J (pre ++ [x]) W') ∨ (e = .returned (.bool false) ∧ Jx (pre ++ [x]) W')) →
    J [] W → CallsIn Fence.wide 8 P gf (#[.func (.yield l) #[] #[]] ++ lb) W fun e W' => (∃ v, e = .returned v) ∧ ((∃ xs, S xs ∧ J xs W') ∨ (∃ pre, Sp pre ∧ Jx pre W'))

theorem range_law {α : Type} {P : Program} {g : Operand} {ps : Array Tmp} {assign body : Code} {Q : Exit → Act → World → Prop} {a : Act} {w : World} {gf : Nat} {lb : Array Value}
    (hg : a.eval g = .func (.func gf) #[] lb) (eg : ∀ args w, (callFunc gf args).run P w = .ok (.enter gf args) w) (hps : ps.size = 1)
    {enc : α → Value} {Hd : α → World → Prop} (hHd : ∀ x A B, Hd x A → Trn w.heap.size A B → Hd x B) {K : World → Prop}
    (I : List α → World → Prop) (Ix : Code → List α → World → Prop) (hI : ∀ s A B, I s A → Trn w.heap.size A B → I s B) (hIx : ∀ c s A B, Ix c s A → Trn w.heap.size A B → Ix c s B) (hK : ∀ s A, I s A → K A)
    (h0 : I [] w) {N : Nat} {S Sp : List α → Prop} (hseq : ∀ W, Trn w.heap.size w W → Hands P gf lb enc Hd K S Sp N W)
    (hround : ∀ (l : Nat) (pre : List α) (x : α) (W : World), I pre W → Hd x W → pre.length < N →
      assign.wpIn (Fence.wide.inRound l) 7 P (Exit.then (fun a₁ W₁ => KeepsFrom w.heap.size W W₁ ∧ ∀ W₂, Trn w.heap.size W₁ W₂ → body.wpIn (Fence.wide.inRound l) 7 P (endsAs w.heap.size I Ix (pre ++ [x]) W₂) a₁ W₂) (fun _ _ _ => False))
        { tmps := (ps.zip #[enc x]).foldl (fun t (p, v) => t.setIfInBounds p v) a.tmps, defers := [] } W)
    (hdone : ∀ (D : Nat) (xs : List α) (W : World), w.heap.size ≤ D → S xs → I xs W → W.heap[D]? = some (.deferred (some [])) → Q .normal { a with defers := { target := .collected D, args := #[] } :: a.defers } W)
    (hstop : ∀ (D : Nat) (c : Code) (pre : List α) (W : World), w.heap.size ≤ D → Sp pre → Ix c pre W → W.heap[D]? = some (.deferred (some [])) → c.wp P Q { a with defers := { target := .collected D, args := #[] } :: a.defers } W) :
    (Code.rangeFunc g ps assign body).wp P Q a w := by
  refine (wpIn_wide (n := 9)).1 (wpIn_rangeFunc fun fn hfn => ?_)
  -- the two blocks that the loop lays
  let D := w.heap.size
  let rec_ : LoopState → Option Code → Loop := fun st pe => { state := st, pending := pe, fn, tmps := a.tmps, params := ps, assign, body, defers := D }
  have hsD : w.heap.size = D := rfl
  have hA : ((w.alloc (.deferred (some []))).alloc (.loop (rec_ .ready none))).heap[D + 1]? = some (.loop (rec_ .ready none)) := by
    have h := World.alloc_heap_new (w.alloc (.deferred (some []))) (.loop (rec_ .ready none))
    rwa [World.size_alloc] at h
  have hB : ((w.alloc (.deferred (some []))).alloc (.loop (rec_ .ready none))).heap[D]? = some (.deferred (some [])) := (Below.heap_alloc _ _ _ (by simp [hsD])).trans (World.alloc_heap_new w _)
  have hC : Trn D w ((w.alloc (.deferred (some []))).alloc (.loop (rec_ .ready none))) := .mod (((Mod.refl w []).alloc _).alloc _)
  obtain ⟨W1, hW1⟩ : ∃ W1, (w.alloc (.deferred (some []))).alloc (.loop (rec_ .ready none)) = W1 := ⟨_, rfl⟩
  rw [hW1] at hA hB hC
  refine ⟨D + 1, [{ target := .collected D, args := #[] }], W1, { target := .fn (.func gf) lb, args := #[.func (.yield (D + 1)) #[] #[]] }, W1, gf,
    #[.func (.yield (D + 1)) #[] #[]] ++ lb, W1, by rw [← hW1]; exact run_enterLoop_outer _ _ _ _ _, ?_, fun f' _ => trivial, ?_, fun h => by simp [Fence.wide] at h, ?_⟩
  · simp only [resolve, hg]
    simp [go_sem]
  · simp [invoke, go_sem, eg]
  -- what holds between two rounds, and behind a round that has left
  let J : List α → World → Prop := fun pre W => I pre W ∧ W.heap[D + 1]? = some (.loop (rec_ .ready none)) ∧ W.heap[D]? = some (.deferred (some []))
  let Jx : List α → World → Prop := fun pre W => ∃ c, Ix c pre W ∧ W.heap[D + 1]? = some (.loop (rec_ .done (some c))) ∧ W.heap[D]? = some (.deferred (some []))
  refine (hseq W1 hC (D + 1) J Jx (fun s A B h m => ⟨hI s A B h.1 (.mod m), (m.block _ (lt_of h.2.1) (by simp)).trans h.2.1, (m.block _ (lt_of h.2.2) (by simp)).trans h.2.2⟩) (fun s A h => hK s A h.1) ?_ ⟨hI _ _ _ h0 hC, hA, hB⟩).mono ?_
  · -- a round
    rintro pre x W ⟨hi, hl, hd⟩ hx hlen
    have hy := run_yield (P := P) (args := #[enc x]) hl (by simp [rec_, hps])
    refine ⟨fn, _, assign, body, hy, roundIn_of_wpIn hfn (wpIn_mono (hround (D + 1) pre x W hi hx hlen) ?_)⟩
    intro e a₁ W₁ he
    cases e with
    | normal =>
      obtain ⟨hk1, hbody⟩ := he
      have hl1 := hk1.same _ _ (by omega) hl rfl
      have hd1 := hk1.same _ _ (by omega) hd rfl
      refine ⟨_, run_beginRound hl1 rfl, ?_⟩
      have hl2 : (W₁.putObj (D + 1) (.loop (rec_ .busy none))).heap[D + 1]? = some (.loop (rec_ .busy none)) := World.putObj_heap_same (lt_of hl1)
      have hd2 : (W₁.putObj (D + 1) (.loop (rec_ .busy none))).heap[D]? = some (.deferred (some [])) := (World.putObj_heap_other (by omega)).trans hd1
      refine wpIn_mono (hbody _ (Trn.turn _ (by omega) hl1 rfl)) ?_
      intro e2 a3 W3 he2
      have fin : ∀ jump : Option Code, KeepsFrom D (W₁.putObj (D + 1) (.loop (rec_ .busy none))) W3 →
          (Instr.endRound (D + 1) jump).run P W3 = .ok (.bool jump.isNone) (W3.putObj (D + 1) (.loop (rec_ (if jump.isNone then .ready else .done) jump))) ∧ Trn D W3 (W3.putObj (D + 1) (.loop (rec_ (if jump.isNone then .ready else .done) jump))) ∧
          (W3.putObj (D + 1) (.loop (rec_ (if jump.isNone then .ready else .done) jump))).heap[D + 1]? = some (.loop (rec_ (if jump.isNone then .ready else .done) jump)) ∧
          (W3.putObj (D + 1) (.loop (rec_ (if jump.isNone then .ready else .done) jump))).heap[D]? = some (.deferred (some [])) := by
        intro jump hk3
        have hl3 := hk3.same _ _ (by omega) hl2 rfl
        exact ⟨run_endRound (P := P) jump hl3, Trn.turn _ (by omega) hl3 rfl, World.putObj_heap_same (lt_of hl3), (World.putObj_heap_other (by omega)).trans (hk3.same _ _ (by omega) hd2 rfl)⟩
      cases e2 with
      | normal =>
        obtain ⟨hk3, hi3⟩ := he2
        obtain ⟨hr, ht, hl4, hd4⟩ := fin none hk3
        exact ⟨_, _, hr, .inl ⟨rfl, hI _ _ _ hi3 ht, hl4, hd4⟩⟩
      | ret =>
        obtain ⟨hk3, hi3⟩ := he2
        obtain ⟨hr, ht, hl4, hd4⟩ := fin (some .ret) hk3
        exact ⟨_, _, hr, .inr ⟨rfl, .ret, hIx _ _ _ _ hi3 ht, hl4, hd4⟩⟩
      | exit id =>
        obtain ⟨hk3, hi3⟩ := he2
        obtain ⟨hr, ht, hl4, hd4⟩ := fin (some (.exit id)) hk3
        exact ⟨_, _, hr, .inr ⟨rfl, .exit id, hIx _ _ _ _ hi3 ht, hl4, hd4⟩⟩
      | goto t =>
        obtain ⟨hk3, hi3⟩ := he2
        obtain ⟨hr, ht, hl4, hd4⟩ := fin (some (.goto t)) hk3
        exact ⟨_, _, hr, .inr ⟨rfl, .goto t, hIx _ _ _ _ hi3 ht, hl4, hd4⟩⟩
      | panic ch => exact he2.elim
      | outgrown => exact he2.elim
    | ret => exact he.elim
    | exit id => exact he.elim
    | goto t => exact he.elim
    | panic ch => exact he.elim
    | outgrown => exact he.elim
  · -- the iterator has returned
    rintro e W2 ⟨⟨v, rfl⟩, (⟨xs, hS, hi, hl, hd⟩ | ⟨pre, hSp, c, hi, hl, hd⟩)⟩
    · refine ⟨none, _, run_endLoop (P := P) hl (by simp [rec_]), ?_⟩
      exact hdone D xs _ (Nat.le_refl _) hS (hI _ _ _ hi (Trn.turn _ (by omega) hl rfl)) ((World.putObj_heap_other (by omega)).trans hd)
    · refine ⟨some c, _, run_endLoop (P := P) hl (by simp [rec_]), ?_⟩
      exact wpIn_wide.2 (hstop D c pre _ (Nat.le_refl _) hSp (hIx _ _ _ _ hi (Trn.turn _ (by omega) hl rfl)) ((World.putObj_heap_other (by omega)).trans hd))
end Go.Proofs.Ytceocpohdckkoaa.Rg
