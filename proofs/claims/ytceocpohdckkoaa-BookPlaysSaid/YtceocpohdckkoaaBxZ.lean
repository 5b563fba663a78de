/- Several texts in one. -/
import Derived.Test.YtceocpohdckkoaaBxS
import Derived.Test.YtceocpohdckkoaaBxJ
import Derived.Test.YtceocpohdckkoaaBxA
import Derived.Test.YtceocpohdckkoaaBx9
import Derived.Laws.AppendOwnNone
section
/- Books: what stands at the head of each round of BookPlays. -/
namespace Go.Proofs.Ytceocpohdckkoaa.Bx
open Go.RowKit Mem Bits
set_option linter.unusedSimpArgs false
set_option linter.unusedVariables false
set_option maxRecDepth 100000

theorem okb_put {b : Int} {rows : List (List Int)} (h : Okb b rows) (xs : List Int) : Okb (putS b rows xs).2.1 (putS b rows xs).2.2 := by
  by_cases hx : mayB xs = true
  · by_cases hlt : b + rows.length < 549755813888
    · obtain ⟨b', rows', e, h', _⟩ := put_ok h hx hlt
      rw [e]
      exact h'
    · unfold putS
      rw [if_pos hx, if_pos (by omega)]
      exact h
  · unfold putS
    rw [if_neg hx]
    exact h
theorem okb_forget {b : Int} {rows : List (List Int)} (h : Okb b rows) (n : Int) : Okb (forgetS b rows n).2.1 (forgetS b rows n).2.2 := by
  have h0 := h.lo
  have h1 := h.hi
  have h2 := h.len
  unfold forgetS
  by_cases ha : n < 0 ∨ b + rows.length < n
  · rw [if_pos ha]
    exact h
  rw [if_neg ha]
  by_cases hb : b < n
  · rw [if_pos hb]
    have hl : (rows.drop (n - b).toNat).length = rows.length - (n - b).toNat := List.length_drop
    refine ⟨by show 0 ≤ n; omega, ?_, ?_, fun r hr => h.may r (List.mem_of_mem_drop hr)⟩
    · show n + ((rows.drop (n - b).toNat).length : Int) ≤ _
      rw [hl]
      omega
    · show (rows.drop (n - b).toNat).length ≤ 64
      rw [hl]
      omega
  · rw [if_neg hb]
    exact h
theorem intsQ_in {w : World} {u : Value} {xs : List Int} (h : IntsR w u xs) : IntsQ w.heap.size w u xs := by
  rcases h with h | ⟨b, off, cap, h1, h2, h3⟩
  · exact .inl h
  · by_cases hx : xs = []
    · subst hx
      exact .inl ⟨rfl, _, _, h1⟩
    · have := h3 0 (List.length_pos_iff.2 hx)
      exact .inr ⟨b, off, cap, h1, h2, .inl (Rw.cell_lt this), h3⟩

/-- At the head of a round: the book at g, the reference's at BR, both base and rows. -/
structure PlS (w : World) (BR N g : Nat) (base : Int) (rows : List (List Int)) (v : Value) (W : World) : Prop where
  md : Mod w W []
  lo : w.heap.size ≤ N
  hi : N ≤ W.heap.size
  lb : w.heap.size ≤ BR
  bk : BookAt W N (fun _ => False) g base rows
  ok : Okb base rows
  br : Blk W BR #[.int .i64 base, v] 57
  rp : RP (IntsQ w.heap.size w) W v rows
theorem PlS.mod {w : World} {BR N g : Nat} {base : Int} {rows : List (List Int)} {v : Value} {A B : World} (h : PlS w BR N g base rows v A) (m : Mod A B []) : PlS w BR N g base rows v B :=
  ⟨h.md.trans0 m, h.lo, Nat.le_trans h.hi m.size, h.lb, h.bk.mod m, h.ok, h.br.mod m (by simp), h.rp.mod m⟩
theorem PlS.same {w : World} {BR N g : Nat} {base : Int} {rows : List (List Int)} {v : Value} {A : World} (h : PlS w BR N g base rows v A) :
    Calls Try.prog 35 #[ptr g, .agg #[.int .i64 base, v]] A fun e w' => e = .returned (.bool true) ∧ Mod A w' [] :=
  same_calls h.bk (h.rp.at (fun u xs hq => hq.kept (Kept.mod h.md))) h.ok
theorem bw_keepT {N g : Nat} {A B : World} (h : Bw N g A B) {cs0 : Array Value} (hg : Blk A g cs0 tK) : KeptT (fun t => t = tR) A B := by
  rintro k cs t hk rfl
  exact h.blk hk (blk_ne hk hg (by decide)) (by decide)
/-- The same amid a round: the reference's is further than the book. -/
structure PlM (w : World) (BR N g : Nat) (X : Nat → Prop) (base : Int) (rows : List (List Int)) (b' : Int) (rows' : List (List Int)) (v : Value) (W : World) : Prop where
  md : Mod w W []
  lo : w.heap.size ≤ N
  hi : N ≤ W.heap.size
  lb : w.heap.size ≤ BR
  bk : BookAt W N X g base rows
  ok : Okb b' rows'
  br : Blk W BR #[.int .i64 b', v] 57
  rp : RP (IntsQ w.heap.size w) W v rows'
theorem keptT_two {p : TypeId → Prop} (hp : ∀ t, p t → t ≠ 57) {A : World} {BR : Nat} {cs0 : Array Value} (hb : Blk A BR cs0 57) (x y : Value) : KeptT p A ((A.setCell ⟨BR, 0, none⟩ x).setCell ⟨BR, 1, none⟩ y) := by
  intro k cs t hk ht
  exact (hk.far (p := ⟨BR, 0, none⟩) (blk_ne hk hb (hp t ht)) _).far (p := ⟨BR, 1, none⟩) (blk_ne hk hb (hp t ht)) _
theorem bookTs_ref (ty : TypeId) (h : bookTs ty) : ty ≠ 57 := by
  rcases h with rfl | rfl | rfl | rfl <;> decide
theorem PlM.store {w : World} {BR N g : Nat} {X : Nat → Prop} {base : Int} {rows : List (List Int)} {c d : Value} {A : World} (md : Mod w A []) (lo : w.heap.size ≤ N) (hi : N ≤ A.heap.size) (lb : w.heap.size ≤ BR) (bk : BookAt A N X g base rows) (br : Blk A BR #[c, d] 57)
    {b' : Int} {rows' : List (List Int)} {v : Value} (ok : Okb b' rows') (rp : RP (IntsQ w.heap.size w) A v rows') {B : World} (hB : (A.setCell ⟨BR, 0, none⟩ (.int .i64 b')).setCell ⟨BR, 1, none⟩ v = B) : PlM w BR N g X base rows b' rows' v B := by
  subst hB
  exact ⟨(md.setCell (p := ⟨BR, 0, none⟩) (.inr lb) _).setCell (p := ⟨BR, 1, none⟩) (.inr lb) _, lo, by simpa using hi, lb, bk.keptT (p := fun t => t ≠ 57) bookTs_ref (keptT_two (fun t h => h) br _ _), ok, two_cells br _ _, rp.kept (keptT_two (fun t h => by rw [h]; decide) br _ _)⟩
theorem PlM.step {w : World} {BR N g : Nat} {X : Nat → Prop} {base : Int} {rows : List (List Int)} {b' : Int} {rows' : List (List Int)} {v : Value} {B C : World} (h : PlM w BR N g X base rows b' rows' v B) (hk : BookAt C N X g b' rows') (hw : Bw N g B C) : PlM w BR N g X b' rows' b' rows' v C := by
  obtain ⟨a, c, hg⟩ := h.bk.rows
  exact ⟨Mod.of_below (h.md.below0.trans (hw.below.mono h.lo)), h.lo, Nat.le_trans h.hi hw.below.size, h.lb, hk, h.ok, hw.blk h.br (blk_ne h.br hg (by decide)) (by decide), h.rp.kept (bw_keepT hw hg)⟩
theorem PlM.toS {w : World} {BR N g : Nat} {X : Nat → Prop} {b' : Int} {rows' : List (List Int)} {v : Value} {B : World} (h : PlM w BR N g X b' rows' b' rows' v B) : PlS w BR N g b' rows' v B :=
  ⟨h.md, h.lo, h.hi, h.lb, h.bk.weak (fun _ _ h => h.elim), h.ok, h.br, h.rp⟩
theorem PlM.mod {w : World} {BR N g : Nat} {X : Nat → Prop} {base : Int} {rows : List (List Int)} {b' : Int} {rows' : List (List Int)} {v : Value} {A B : World} (h : PlM w BR N g X base rows b' rows' v A) (m : Mod A B []) : PlM w BR N g X base rows b' rows' v B :=
  ⟨h.md.trans0 m, h.lo, Nat.le_trans h.hi m.size, h.lb, h.bk.mod m, h.ok, h.br.mod m (by simp), h.rp.mod m⟩
end Go.Proofs.Ytceocpohdckkoaa.Bx
end

section
/- Books: what was read is spoiled: its rows are written over. -/
namespace Go.Proofs.Ytceocpohdckkoaa.Bx
open Go.RowKit Mem Bits
set_option linter.unusedSimpArgs false
set_option linter.unusedVariables false
set_option maxRecDepth 100000

/-- n matches that can be written over: their rows are blocks of their own, from D on. -/
def Tr (D : Nat) (W : World) (v : Value) (n : Nat) : Prop := ∃ ad cap, v = .slice ad n cap ∧ n ≤ cap ∧ (n = 0 ∨ ∃ b cs0, ad = some ⟨b, 0, none⟩ ∧ Blk W b cs0 tM ∧ ∀ k, k < n → ∃ rb rn rc, W.cell? ⟨b, k, none⟩ = some (slV rb rn rc) ∧ 0 < rn ∧ rn ≤ rc ∧ D ≤ rb ∧ ∃ cs, Blk W rb cs tI ∧ 0 < cs.size)
theorem Tr.of {D : Nat} {W : World} {v : Value} {outs : List (List Int)} (h : OutAt D W v outs) : Tr D W v outs.length := by
  obtain ⟨us, ho, hr⟩ := h
  have hl := all2_len hr
  rcases own_cell ho with ⟨h1, h2, _⟩ | ⟨g, c, hv, _, h2, _, _, h4⟩
  · exact ⟨none, 0, by rw [h1, ← hl, h2], by omega, .inl (by omega)⟩
  · obtain ⟨cur, hb⟩ := own_blk ho g (by rw [hv]; rfl)
    refine ⟨_, c, by rw [hv, hl], by omega, .inr ⟨g, cur, rfl, hb, fun k hk => ?_⟩⟩
    have hk1 : k < us.length := by omega
    have hf := all2_get hr k hk1 hk
    have hne := hf.1
    obtain ⟨rb, rc, e1, e2, e3, ⟨cs, e4⟩, e5⟩ := hf.cell
    have hp := List.length_pos_iff.2 hne
    refine ⟨rb, _, rc, by rw [h4 k hk1, e1], hp, e3, e2, cs, e4, ?_⟩
    have h5 := e5 0 hp
    rw [e4.cell] at h5
    exact (Array.getElem?_eq_some_iff.1 h5).1
theorem Tr.mod {D : Nat} {A B : World} {v : Value} {n : Nat} (h : Tr D A v n) (m : Mod A B []) : Tr D B v n := by
  obtain ⟨ad, cap, h1, h2, h3⟩ := h
  refine ⟨ad, cap, h1, h2, h3.imp id (fun ⟨b, cs0, q1, q2, q3⟩ => ⟨b, cs0, q1, q2.mod m (by simp), fun k hk => ?_⟩)⟩
  obtain ⟨rb, rn, rc, r1, r2, r3, r4, cs, r5, r6⟩ := q3 k hk
  exact ⟨rb, rn, rc, (Kept.mod m).cell r1, r2, r3, r4, cs, r5.mod m (by simp), r6⟩
theorem blk_put {W : World} {rb' : Nat} {cs' : Array Value} (h' : Blk W rb' cs' tI) (i : Nat) (y : Value) {rb : Nat} {cs : Array Value} (h : Blk W rb cs tI) : ∃ cs2, Blk (W.setCell ⟨rb', i, none⟩ y) rb cs2 tI ∧ cs2.size = cs.size := by
  by_cases e : rb = rb'
  · subst e
    exact ⟨_, h.set i y, by simp⟩
  · exact ⟨_, h.far (p := ⟨rb', i, none⟩) e y, rfl⟩
theorem Tr.put {D : Nat} {W : World} {v : Value} {n : Nat} (h : Tr D W v n) {rb' : Nat} {cs' : Array Value} (h' : Blk W rb' cs' tI) (y : Value) : Tr D (W.setCell ⟨rb', 0, none⟩ y) v n := by
  obtain ⟨ad, cap, h1, h2, h3⟩ := h
  refine ⟨ad, cap, h1, h2, h3.imp id (fun ⟨b, cs0, q1, q2, q3⟩ => ?_)⟩
  have q2' := q2.far (p := ⟨rb', 0, none⟩) (blk_ne q2 h' (by decide)) y
  refine ⟨b, cs0, q1, q2', fun k hk => ?_⟩
  obtain ⟨rb, rn, rc, r1, r2, r3, r4, cs, r5, r6⟩ := q3 k hk
  obtain ⟨cs2, s1, s2⟩ := blk_put h' 0 y r5
  exact ⟨rb, rn, rc, by rw [q2'.cell, ← q2.cell]; exact r1, r2, r3, r4, cs2, s1, by rw [s2]; exact r6⟩
theorem readS_len {base : Int} {rows : List (List Int)} (h : rows.length ≤ 64) (f m : Int) : (readS base rows f m).1.length ≤ 64 := by
  unfold readS
  by_cases h0 : f < 0 ∨ m < 0
  · rw [if_pos h0]; exact Nat.zero_le _
  rw [if_neg h0]
  by_cases h1 : f < base
  · rw [if_pos h1]; exact Nat.zero_le _
  rw [if_neg h1]
  show ((rows.drop _).take _).length ≤ 64
  rw [List.length_take, List.length_drop]
  omega
theorem readS_mem {base : Int} {rows : List (List Int)} (f m : Int) : ∀ r ∈ (readS base rows f m).1, r ∈ rows := by
  unfold readS
  by_cases h0 : f < 0 ∨ m < 0
  · rw [if_pos h0]; simp
  rw [if_neg h0]
  by_cases h1 : f < base
  · rw [if_pos h1]; simp
  rw [if_neg h1]
  intro r hr
  exact List.mem_of_mem_drop (List.mem_of_mem_take hr)
theorem PlM.put {w : World} {BR N g : Nat} {X : Nat → Prop} {base : Int} {rows : List (List Int)} {b' : Int} {rows' : List (List Int)} {v : Value} {W : World} (h : PlM w BR N g X base rows b' rows' v W) {pb : Nat} {cs : Array Value} (hb : Blk W pb cs tI) (hX : X pb) (hp : w.heap.size ≤ pb) (j : Nat) (y : Value) : PlM w BR N g X base rows b' rows' v (W.setCell ⟨pb, j, none⟩ y) :=
  ⟨h.md.setCell (p := ⟨pb, j, none⟩) (.inr hp) y, h.lo, by simpa using h.hi, h.lb, h.bk.put hb hX j y, h.ok, h.br.far (p := ⟨pb, j, none⟩) (blk_ne h.br hb (by decide)) y, h.rp.kept (by
    rintro k cs2 t hk rfl
    exact hk.far (p := ⟨pb, j, none⟩) (blk_ne hk hb (by decide)) y)⟩
theorem own_q {base : Nat} {W : World} {v : Value} {xs : List Int} (h : W.ownsRow base tI 1 v xs.length (xs.map iv)) : IntsQ 0 W v xs := by
  rcases own_cell h with ⟨h1, h2, _⟩ | ⟨g, c, hv, _, h3, _, _, h5⟩
  · have : xs = [] := List.eq_nil_of_length_eq_zero (by simpa using h2)
    subst this
    exact .inl ⟨rfl, none, 0, h1⟩
  · obtain ⟨cur, hb⟩ := own_blk h g (by rw [hv]; rfl)
    exact .inr ⟨g, 0, c, hv, h3, .inr ⟨cur, hb⟩, fun i hi => by rw [Nat.zero_add, h5 i (by simpa using hi), List.getElem_map, gi_eq hi]⟩
/-- A row of n ints whose block is from D on. -/
def PQ (D : Nat) (W : World) (pa : Option Addr) (n : Nat) : Prop := n = 0 ∨ ∃ pb cs, pa = some ⟨pb, 0, none⟩ ∧ D ≤ pb ∧ Blk W pb cs tI ∧ n ≤ cs.size
theorem PQ.of {D base : Nat} {W : World} {pa : Option Addr} {pc : Nat} {xs : List Int} (h : W.ownsRow base tI 1 (.slice pa xs.length pc) xs.length (xs.map iv)) (hD : D ≤ base) : PQ D W pa xs.length := by
  rcases own_cell h with ⟨h1, h2, _⟩ | ⟨g, c, hv, hg, h3, _, _, h5⟩
  · exact .inl h2
  · rcases Nat.eq_zero_or_pos xs.length with h0 | hp
    · exact .inl h0
    obtain ⟨cur, hb⟩ := own_blk h g (by rw [hv]; rfl)
    injection hv with e1 e2 e3
    refine .inr ⟨g, cur, e1, by omega, hb, ?_⟩
    have h6 := h5 (xs.length - 1) (by simp; omega)
    rw [hb.cell] at h6
    have := (Array.getElem?_eq_some_iff.1 h6).1
    omega
theorem PQ.mod {D : Nat} {A B : World} {pa : Option Addr} {n : Nat} (h : PQ D A pa n) (m : Mod A B []) : PQ D B pa n :=
  h.imp id (fun ⟨pb, cs, h1, h2, h3, h4⟩ => ⟨pb, cs, h1, h2, h3.mod m (by simp), h4⟩)
theorem PQ.keptI {D : Nat} {A B : World} {pa : Option Addr} {n : Nat} (h : PQ D A pa n) (k : KeptT (fun t => t = tI) A B) : PQ D B pa n :=
  h.imp id (fun ⟨pb, cs, h1, h2, h3, h4⟩ => ⟨pb, cs, h1, h2, k _ _ _ h3 rfl, h4⟩)
theorem PQ.bw {D N g : Nat} {A B : World} {pa : Option Addr} {n : Nat} (h : PQ D A pa n) (k : Bw N g A B) {cs0 : Array Value} (hg : Blk A g cs0 tK) : PQ D B pa n :=
  h.imp id (fun ⟨pb, cs, h1, h2, h3, h4⟩ => ⟨pb, cs, h1, h2, k.blk h3 (blk_ne h3 hg (by decide)) (by decide), h4⟩)
theorem PQ.put {D : Nat} {W : World} {pa : Option Addr} {n : Nat} (h : PQ D W pa n) (i : Nat) (y : Value) : ∀ pb, pa = some ⟨pb, 0, none⟩ → PQ D (W.setCell ⟨pb, i, none⟩ y) pa n := by
  intro pb hpb
  refine h.imp id (fun ⟨pb', cs, h1, h2, h3, h4⟩ => ?_)
  rw [hpb] at h1
  injection h1 with h1
  injection h1 with h1
  subst h1
  exact ⟨pb, _, hpb, h2, h3.set i y, by simpa using h4⟩
/-- An append of nothing, of any capacity, to a row of the call's own. -/
theorem wpList_append_nothing {P : Program} {w : World} {ops : Array Oper} {rest : List Oper} {o : Oper} {a : Act} {Q : Exit → Act → World → Prop} (hgd : o.guard = none) (s x : Operand) (t : TypeId)
    (ho : o.op = .call { callee := .builtin .append, args := #[s, x], argTypes := #[t, t] })
    (base : Nat) (e : TypeId) (i : TypeInfo) (size : Nat) (ht : P.underlying t = some (.slice e)) (hi : P.info? e = some i)
    (v : Value) (n : Nat) (xs : List Value) (hs : a.eval s = v) (hown : w.ownsRow base e size v n xs) (c : Nat) (hx : a.eval x = .slice none 0 c)
    (h : ∀ v' w', w'.ownsRow base e size v' n xs → Mod w w' [] → wpList P ops Q rest (a.put o.dst v') w') : wpList P ops Q (o :: rest) a w := by
  have hrun : (Builtin.append_ #[t, t] o.type #[v, .slice none 0 c]).run P w = .ok v w := by
    rcases hown.2 with ⟨rfl, rfl⟩ | ⟨g, cap, cur, rfl, _, _, hnc, _⟩
    · simp [Builtin.append_, run_underlying ht, sizeOf, typeInfo, hi, Builtin.lenOf, Builtin.firstCells]
    · simp [Builtin.append_, run_underlying ht, sizeOf, typeInfo, hi, Builtin.lenOf, Builtin.firstCells, hnc, storeCells]
  refine wpList_plain hgd fun K hK => ?_
  unfold Oper.wp
  simp [execOp, ho, resolve, invoke, builtin, hs, hx, hrun, Result.andThen]
  exact hK _ _ (h v w hown (Mod.refl _ _))
end Go.Proofs.Ytceocpohdckkoaa.Bx
end

section
/- The law BookPlays. (Printed by mkBxU.py.) -/
namespace Go.Proofs.Ytceocpohdckkoaa.Bx
open Go.RowKit Mem Bits
set_option linter.unusedSimpArgs false
set_option linter.unusedVariables false
set_option maxRecDepth 100000

set_option maxHeartbeats 16000000 in
theorem bookPlays_calls (w : World) (a : Value) (ha : Open.Rd w (.sl bactSh 48) [a]) :
    Calls Try.prog 10 #[a] w fun e w' => e = .returned (.bool true) ∧ Below w.heap.size w w' := by
  obtain ⟨l, ad, acap, rfl, hlc, hal, hacs, hac⟩ := acts_rd ha
  have AW := Lib.hid awake_calls
  have NW := Lib.hid new_calls
  have HAC := Lib.hid hac
  have HACS := Lib.hid hacs
  have hal' : (l.length : Int) ≤ 140737488351232 := by omega
  have hlc' : (l.length : Int) ≤ acap := by omega
  clear ha hac hacs
  go_enter Try.func10, Try.ntmps10
  go_wp2_with fail
  (with_reducible refine (NW.out _).mono ?_)
  rintro e w1 ⟨rfl, hm1, hk1⟩
  have HI1 : Hid (PlS w w1.heap.size w.heap.size w.heap.size 0 [] (.slice none 0 0) (w1.alloc (.cells #[.int .i64 0, .slice none 0 0] 57))) := Lib.hid
    ⟨hm1.alloc _, Nat.le_refl _, (hm1.alloc _).size, hm1.size, hk1.mod ((Mod.refl _ _).alloc _), ⟨by omega, by simp, by simp, fun r hr => by simp at hr⟩, Blk.new _ _ _, RP.nil _ _⟩
  clear hm1 hk1
  go_wp2_with fail
  generalize w1.heap.size = BR at *
  generalize w1.alloc _ = w2 at *
  (with_reducible refine (AW.out _).mono ?_)
  rintro e w3 ⟨rfl, hm3⟩
  have HI3 := Lib.hid (HI1.out.mod hm3)
  clear hm3 HI1 NW AW
  go_wp2_with fail
  go_loopw [3, 5] (fun vb vi wr => ∃ (i N g : Nat) (base : Int) (rows : List (List Int)) (v : Value), vb = .pointer (some ⟨g, 0, none⟩) ∧ vi = .int .i64 (i : Int) ∧ i ≤ 150 ∧ i ≤ l.length ∧ PlS w BR N g base rows v wr) (fun _ vi _ => 151 - (intOf vi).toNat)
  case atStart => exact ⟨0, w.heap.size, w.heap.size, 0, [], .slice none 0 0, rfl, rfl, by omega, by omega, HI3.out⟩
  case round =>
    obtain ⟨i, N, g, base, rows, v, rfl, rfl, hi, hil, hpl⟩ := hrel
    have HPL := Lib.hid hpl
    clear hpl HI3
    by_cases hgo : i < l.length ∧ i < 150
    · obtain ⟨hlt, h150⟩ := hgo
      have hlt' : (i : Int) < l.length := by omega
      have h150' : (i : Int) < 150 := by omega
      obtain ⟨bb, off, rfl, hcs⟩ := HAC.out.resolve_left (fun h => by rw [h] at hlt; simp at hlt)
      have HXA := Lib.hid (HACS.out _ (List.getElem_mem hlt))
      have HE := Lib.hid (hcs i hlt)
      clear hcs
      generalize l[i]'hlt = x at *
      obtain ⟨xk, xa, xb, xu, xs⟩ := x
      simp only at HE HXA
      obtain ⟨⟨hxk0, hxk1⟩, ⟨hxa0, hxa1⟩, ⟨hxb0, hxb1⟩, hxr, hxl, ua, uc, rfl⟩ := HXA.out
      have HXR := Lib.hid hxr
      have hxl' : (xs.length : Int) ≤ 140737488351232 := by omega
      clear HXA hxr
      obtain ⟨e0, e1, e2, e3⟩ := HE.out
      replace e0 := (Kept.mod HPL.out.md).cell e0
      replace e1 := (Kept.mod HPL.out.md).cell e1
      replace e2 := (Kept.mod HPL.out.md).cell e2
      replace e3 := (Kept.mod HPL.out.md).cell e3
      obtain ⟨va, vc, rfl, hvc⟩ := HPL.out.rp.slice
      have HXB := Lib.hid (Blk.new wr #[.int .i64 xk, .int .i64 xa, .int .i64 xb, .slice ua xs.length uc] 28)
      have HP2 := Lib.hid (HPL.out.mod ((Mod.refl wr []).alloc (.cells #[.int .i64 xk, .int .i64 xa, .int .i64 xb, .slice ua xs.length uc] 28)))
      clear HE HPL
      by_cases hbig : 100 < xs.length
      · have hbig' : (100 : Int) < xs.length := by omega
        go_wp2_with fail
        go_roundw
        case rel => exact ⟨i + 1, N, g, base, rows, _, rfl, by go_num, by omega, by omega, HP2.out⟩
        case measure => simp [intOf]; omega
      have hbig' : ¬ (100 : Int) < xs.length := by omega
      have hxle : (xs.length : Int) ≤ 100 := by omega
      by_cases k0 : xk = 0
      · subst k0
        have hPs : ∀ u xs, IntsQ w.heap.size w u xs → ∃ a n c, u = .slice a n c := fun u xs h => by obtain ⟨a, c, h⟩ := h.slice; exact ⟨a, _, c, h⟩
        obtain ⟨j0, hj0, hx0, hx1, hx2⟩ := info_parts info_int
        have HOK := Lib.hid HP2.out.ok
        have HMA := Lib.hid ((Mod.refl (wr.alloc (.cells #[.int .i64 0, .int .i64 xa, .int .i64 xb, .slice ua xs.length uc] 28)) []).alloc (.cells #[] 3))
        have HO2 : Hid (((wr.alloc (.cells #[.int .i64 0, .int .i64 xa, .int .i64 xb, .slice ua xs.length uc] 28)).alloc (.cells #[] 3)).ownsRow (wr.heap.size + 1) tI 1 (.slice (some ⟨wr.heap.size + 1, 0, none⟩) 0 0) 0 []) := Lib.hid (by
          have hb := Blk.new (wr.alloc (.cells #[.int .i64 0, .int .i64 xa, .int .i64 xb, .slice ua xs.length uc] 28)) #[] 3
          rw [World.size_alloc] at hb
          exact ⟨rfl, .inr ⟨wr.heap.size + 1, 0, #[], rfl, Nat.le_refl _, hb, by simp⟩⟩)
        rcases ua with _ | ua
        · have HX00 : Hid (xs = []) := Lib.hid (by
            rcases HXR.out with ⟨h, _⟩ | ⟨b, off, cap, h1, _⟩
            · exact h
            · cases h1)
          have HL00 : Hid (0 = xs.length) := Lib.hid (by rw [HX00.out]; rfl)
          have HO4 : Hid (((wr.alloc (.cells #[.int .i64 0, .int .i64 xa, .int .i64 xb, .slice none xs.length uc] 28)).alloc (.cells #[] 3)).ownsRow (wr.heap.size + 1) tI 1 (.slice (some ⟨wr.heap.size + 1, 0, none⟩) xs.length 0) xs.length (xs.map iv)) := Lib.hid (by rw [HX00.out]; rw [HX00.out] at HO2; exact HO2.out)
          go_wp2_with (at_builtin; refine wpList_append_nothing rfl _ _ 26 rfl (wr.heap.size + 1) 3 j0 1 Try.underlying26 hj0 _ xs.length (xs.map iv) (congrArg (fun n => Value.slice (some ⟨wr.heap.size + 1, 0, none⟩) n 0) HL00.out) HO4.out uc (congrArg (fun n => Value.slice none n uc) HL00.out.symm) ?_; intro v' w3 hown' hgrow; have HO3 := Lib.hid hown'; have HG3 := Lib.hid hgrow; clear hown' hgrow; obtain ⟨pa, pc, hv3⟩ := Rw.own_slice HO3.out; subst hv3; have HM3 := Lib.hid (HMA.out.trans0 HG3.out); have HP3 := Lib.hid (HP2.out.mod HM3.out); have HXC := Lib.hid (HXB.out.mod HM3.out (by simp)); have hb3 := HP3.out.br; have z0 := hb3.cell 0; have z1 := hb3.cell 1; have x3 := HXC.out.cell 3; clear hb3)
          try simp only [Nat.zero_add, List.nil_append] at HO3
          try simp only [Nat.zero_add]
          have HX0 := Lib.hid (own_q HO3.out)
          have BK3 := Lib.hid ((HP2.out.bk.weak (Y := fun k => (Value.slice pa xs.length pc).ownBlock = some k) (fun k hk hy => by have := own_ge HO3.out k hy; simp at hk; omega)).mod HM3.out)
          have RC0 := rput_calls hPs base _ rows HP3.out.rp (.slice none xs.length uc) xs (HXR.out.kept (Kept.mod HP3.out.md)) (intsQ_in HXR.out) (by omega) HOK.out.lo (by have := HOK.out.hi; omega) HOK.out.len
          have OKP := Lib.hid (okb_put HOK.out xs)
          obtain ⟨R, hR⟩ : ∃ R, putS base rows xs = R := ⟨_, rfl⟩
          rw [hR] at RC0 OKP
          have HR := Lib.hid hR
          have RC := Lib.hid RC0
          clear RC0 hR
          obtain ⟨Rc, Rb, Rr⟩ := R
          simp only at OKP
          clear e0 e1 e2 e3
          (with_reducible refine (RC.out).mono ?_)
          rintro e w4 ⟨hm4, v4, rfl, hrp4⟩
          obtain ⟨a4, c4, rfl, hc4⟩ := hrp4.slice
          have HF := Lib.hid (HP3.out.mod hm4)
          have HRP := Lib.hid hrp4
          have hbr := HF.out.br
          have y0 := hbr.free 0
          have y1 := hbr.free 1
          have y2 := hbr.cell 0
          have y3 := hbr.cell 1
          simp only at HRP
          obtain ⟨w5, hw5⟩ : ∃ w5, (w4.setCell ⟨BR, 0, none⟩ (.int .i64 Rb)).setCell ⟨BR, 1, none⟩ (.slice a4 Rr.length c4) = w5 := ⟨_, rfl⟩
          have HM5 := Lib.hid (PlM.store HF.out.md HF.out.lo HF.out.hi HF.out.lb (BK3.out.mod hm4) hbr OKP.out HRP.out hw5)
          have HKI : Hid (KeptT (fun t => t = tI) w4 w5) := Lib.hid (by rw [← hw5]; exact keptT_two (fun t h => by rw [h]; decide) hbr _ _)
          have HQ5 : Hid (PQ w.heap.size w5 pa xs.length) := Lib.hid (((PQ.of HO3.out (by have := HP2.out.md.size; simp at this; omega)).mod hm4).keptI HKI.out)
          have HXB5 : Hid (∀ k, (Value.slice pa xs.length pc).ownBlock = some k → k < w5.heap.size) := Lib.hid (fun k hk => by
            obtain ⟨cur, hb⟩ := own_blk HO3.out k hk
            exact (HKI.out _ _ _ (hb.mod hm4 (by simp)) rfl).lt)
          have PC0 := put_calls HM5.out.bk (.slice pa xs.length pc) xs ((HX0.out.kept (Kept.mod hm4)).keptI HKI.out).r (by omega) HOK.out.lo (by have := HOK.out.hi; omega) HOK.out.len HXB5.out HM5.out.hi
          rw [HR.out] at PC0
          have PC := Lib.hid PC0
          clear PC0 hbr hrp4 hm4 hc4 z0 z1 x3 RC
          go_wp2_with fail
          (with_reducible refine (PC.out).mono ?_)
          rintro e w6 ⟨rfl, hk6, hw6⟩
          have HM6 := Lib.hid (HM5.out.step hk6 hw6)
          have HQ6 : Hid (PQ w.heap.size w6 pa xs.length) := Lib.hid (by
            obtain ⟨a, c, hg⟩ := HM5.out.bk.rows
            exact HQ5.out.bw hw6 hg)
          clear hk6 hw6 PC HM5 HQ5 HXB5 HKI hw5 y0 y1 y2 y3
          go_wp2_with fail
          obtain ⟨wo, rfl⟩ : ∃ wo, wo = wr := ⟨_, rfl⟩
          go_loopw [10] (fun vk wr2 => ∃ k : Nat, vk = .int .i64 (k : Int) ∧ k ≤ xs.length ∧ PlM w BR N g (fun k => (Value.slice pa xs.length pc).ownBlock = some k) Rb Rr Rb Rr (.slice a4 Rr.length c4) wr2 ∧ PQ w.heap.size wr2 pa xs.length) (fun vk _ => xs.length + 1 - (intOf vk).toNat)
          case atStart => exact ⟨0, rfl, Nat.zero_le _, HM6.out, HQ6.out⟩
          case round =>
            obtain ⟨k, rfl, hk, hmk, hqk⟩ := hrel
            have HMK := Lib.hid hmk
            have HQK := Lib.hid hqk
            clear hmk hqk HM6 HQ6
            by_cases hkl : k < xs.length
            · have hkl' : (k : Int) < xs.length := by omega
              obtain ⟨pb, cs, rfl, hpb, hb, hcs⟩ := HQK.out.resolve_left (by omega)
              have y0 := hb.free k
              have y1 : wr.cell? ⟨pb, k, none⟩ = some (cs[k]'(by omega)) := by rw [hb.cell]; simp [show k < cs.size by omega]
              have HQ' := Lib.hid (HQK.out.put k (.int .i64 (-5)))
              have HM' := Lib.hid (HMK.out.put hb rfl hpb k (.int .i64 (-5)))
              clear hb
              go_wp2_with fail
              go_roundw
              case rel => exact ⟨k + 1, by go_num, by omega, HM'.out, HQ'.out pb rfl⟩
              case measure => simp [intOf]; omega
            · have hkl' : (xs.length : Int) ≤ k := by omega
              have HPz := Lib.hid HMK.out.toS
              have SC := Lib.hid HPz.out.same
              have hbz := HPz.out.br
              have z0 := hbz.cell 0
              have z1 := hbz.cell 1
              clear hbz
              go_wp2_with fail
              (with_reducible refine (SC.out).mono ?_)
              rintro e wy ⟨rfl, hmy⟩
              have HPy := Lib.hid (HPz.out.mod hmy)
              clear hmy SC HPz z0 z1
              go_wp2_with fail
              go_roundw
              case rel => exact ⟨i + 1, N, g, Rb, Rr, _, rfl, by go_num, by omega, by omega, HPy.out⟩
              case measure => simp [intOf]; omega

        have HNW : Hid (∀ j u, (xs.map iv)[j]? = some u → ((wr.alloc (.cells #[.int .i64 0, .int .i64 xa, .int .i64 xb, .slice (some ua) xs.length uc] 28)).alloc (.cells #[] 3)).cell? (ua.add j) = some u) := Lib.hid (fun j u hj => by
          have hr := (HXR.out.kept (Kept.mod (HP2.out.md.trans0 HMA.out)))
          rcases hr with ⟨rfl, _⟩ | ⟨b, off, cap, h1, _, h3⟩
          · simp at hj
          · injection h1 with h1
            injection h1 with h1
            subst h1
            simp only [List.getElem?_map, Option.map_eq_some_iff] at hj
            obtain ⟨y, hy, rfl⟩ := hj
            obtain ⟨hlj, rfl⟩ := List.getElem?_eq_some_iff.1 hy
            rw [gi_eq hlj]
            have h4 := h3 j hlj
            rcases Nat.eq_zero_or_pos j with rfl | hp
            · simpa [Addr.add] using h4
            · simpa [Addr.add, show j ≠ 0 by omega] using h4)
        go_wp2_with (at_builtin; refine wpList_append_own _ rfl _ _ 26 rfl (wr.heap.size + 1) 3 j0 _ 1 8 Try.underlying26 hj0 hx0 hx1 hx2 rfl (by decide) _ 0 [] rfl HO2.out ua _ _ (xs.map iv) rfl (by simp) HNW.out (by intro u hu; obtain ⟨y, _, rfl⟩ := List.mem_map.1 hu; rfl) (by unfold maxLen; omega) (by omega) (by simp) ?_; intro v' w3 hown' hgrow hnil; clear hnil; have HO3 := Lib.hid hown'; have HG3 := Lib.hid hgrow; clear hown' hgrow; obtain ⟨pa, pc, hv3⟩ := Rw.own_slice HO3.out; subst hv3; have HM3 := Lib.hid (HMA.out.grown HG3.out (fun k hk => .inr (by have := own_ge HO2.out k hk; simp; omega))); have HP3 := Lib.hid (HP2.out.mod HM3.out); have HXC := Lib.hid (HXB.out.mod HM3.out (by simp)); have hb3 := HP3.out.br; have z0 := hb3.cell 0; have z1 := hb3.cell 1; have x3 := HXC.out.cell 3; clear hb3)
        try simp only [Nat.zero_add, List.nil_append] at HO3
        try simp only [Nat.zero_add]
        have HX0 := Lib.hid (own_q HO3.out)
        have BK3 := Lib.hid ((HP2.out.bk.weak (Y := fun k => (Value.slice pa xs.length pc).ownBlock = some k) (fun k hk hy => by have := own_ge HO3.out k hy; simp at hk; omega)).mod HM3.out)
        have RC0 := rput_calls hPs base _ rows HP3.out.rp (.slice (some ua) xs.length uc) xs (HXR.out.kept (Kept.mod HP3.out.md)) (intsQ_in HXR.out) (by omega) HOK.out.lo (by have := HOK.out.hi; omega) HOK.out.len
        have OKP := Lib.hid (okb_put HOK.out xs)
        obtain ⟨R, hR⟩ : ∃ R, putS base rows xs = R := ⟨_, rfl⟩
        rw [hR] at RC0 OKP
        have HR := Lib.hid hR
        have RC := Lib.hid RC0
        clear RC0 hR
        obtain ⟨Rc, Rb, Rr⟩ := R
        simp only at OKP
        clear e0 e1 e2 e3
        (with_reducible refine (RC.out).mono ?_)
        rintro e w4 ⟨hm4, v4, rfl, hrp4⟩
        obtain ⟨a4, c4, rfl, hc4⟩ := hrp4.slice
        have HF := Lib.hid (HP3.out.mod hm4)
        have HRP := Lib.hid hrp4
        have hbr := HF.out.br
        have y0 := hbr.free 0
        have y1 := hbr.free 1
        have y2 := hbr.cell 0
        have y3 := hbr.cell 1
        simp only at HRP
        obtain ⟨w5, hw5⟩ : ∃ w5, (w4.setCell ⟨BR, 0, none⟩ (.int .i64 Rb)).setCell ⟨BR, 1, none⟩ (.slice a4 Rr.length c4) = w5 := ⟨_, rfl⟩
        have HM5 := Lib.hid (PlM.store HF.out.md HF.out.lo HF.out.hi HF.out.lb (BK3.out.mod hm4) hbr OKP.out HRP.out hw5)
        have HKI : Hid (KeptT (fun t => t = tI) w4 w5) := Lib.hid (by rw [← hw5]; exact keptT_two (fun t h => by rw [h]; decide) hbr _ _)
        have HQ5 : Hid (PQ w.heap.size w5 pa xs.length) := Lib.hid (((PQ.of HO3.out (by have := HP2.out.md.size; simp at this; omega)).mod hm4).keptI HKI.out)
        have HXB5 : Hid (∀ k, (Value.slice pa xs.length pc).ownBlock = some k → k < w5.heap.size) := Lib.hid (fun k hk => by
          obtain ⟨cur, hb⟩ := own_blk HO3.out k hk
          exact (HKI.out _ _ _ (hb.mod hm4 (by simp)) rfl).lt)
        have PC0 := put_calls HM5.out.bk (.slice pa xs.length pc) xs ((HX0.out.kept (Kept.mod hm4)).keptI HKI.out).r (by omega) HOK.out.lo (by have := HOK.out.hi; omega) HOK.out.len HXB5.out HM5.out.hi
        rw [HR.out] at PC0
        have PC := Lib.hid PC0
        clear PC0 hbr hrp4 hm4 hc4 z0 z1 x3 RC
        go_wp2_with fail
        (with_reducible refine (PC.out).mono ?_)
        rintro e w6 ⟨rfl, hk6, hw6⟩
        have HM6 := Lib.hid (HM5.out.step hk6 hw6)
        have HQ6 : Hid (PQ w.heap.size w6 pa xs.length) := Lib.hid (by
          obtain ⟨a, c, hg⟩ := HM5.out.bk.rows
          exact HQ5.out.bw hw6 hg)
        clear hk6 hw6 PC HM5 HQ5 HXB5 HKI hw5 y0 y1 y2 y3
        go_wp2_with fail
        obtain ⟨wo, rfl⟩ : ∃ wo, wo = wr := ⟨_, rfl⟩
        go_loopw [10] (fun vk wr2 => ∃ k : Nat, vk = .int .i64 (k : Int) ∧ k ≤ xs.length ∧ PlM w BR N g (fun k => (Value.slice pa xs.length pc).ownBlock = some k) Rb Rr Rb Rr (.slice a4 Rr.length c4) wr2 ∧ PQ w.heap.size wr2 pa xs.length) (fun vk _ => xs.length + 1 - (intOf vk).toNat)
        case atStart => exact ⟨0, rfl, Nat.zero_le _, HM6.out, HQ6.out⟩
        case round =>
          obtain ⟨k, rfl, hk, hmk, hqk⟩ := hrel
          have HMK := Lib.hid hmk
          have HQK := Lib.hid hqk
          clear hmk hqk HM6 HQ6
          by_cases hkl : k < xs.length
          · have hkl' : (k : Int) < xs.length := by omega
            obtain ⟨pb, cs, rfl, hpb, hb, hcs⟩ := HQK.out.resolve_left (by omega)
            have y0 := hb.free k
            have y1 : wr.cell? ⟨pb, k, none⟩ = some (cs[k]'(by omega)) := by rw [hb.cell]; simp [show k < cs.size by omega]
            have HQ' := Lib.hid (HQK.out.put k (.int .i64 (-5)))
            have HM' := Lib.hid (HMK.out.put hb rfl hpb k (.int .i64 (-5)))
            clear hb
            go_wp2_with fail
            go_roundw
            case rel => exact ⟨k + 1, by go_num, by omega, HM'.out, HQ'.out pb rfl⟩
            case measure => simp [intOf]; omega
          · have hkl' : (xs.length : Int) ≤ k := by omega
            have HPz := Lib.hid HMK.out.toS
            have SC := Lib.hid HPz.out.same
            have hbz := HPz.out.br
            have z0 := hbz.cell 0
            have z1 := hbz.cell 1
            clear hbz
            go_wp2_with fail
            (with_reducible refine (SC.out).mono ?_)
            rintro e wy ⟨rfl, hmy⟩
            have HPy := Lib.hid (HPz.out.mod hmy)
            clear hmy SC HPz z0 z1
            go_wp2_with fail
            go_roundw
            case rel => exact ⟨i + 1, N, g, Rb, Rr, _, rfl, by go_num, by omega, by omega, HPy.out⟩
            case measure => simp [intOf]; omega
      by_cases k1 : xk = 1
      · subst k1
        have hPs : ∀ u xs, IntsQ w.heap.size w u xs → ∃ a n c, u = .slice a n c := fun u xs h => by obtain ⟨a, c, h⟩ := h.slice; exact ⟨a, _, c, h⟩
        have HOK := Lib.hid HP2.out.ok
        obtain ⟨R, hR⟩ : ∃ R, readS base rows xa xb = R := ⟨_, rfl⟩
        have HRl := Lib.hid (show R.1.length ≤ 64 from by rw [← hR]; exact readS_len HOK.out.len xa xb)
        have HRm := Lib.hid (show ∀ r ∈ R.1, r.length ≤ 1000 from fun r hr => by rw [← hR] at hr; have := (mayB_vals (HOK.out.may r (readS_mem xa xb r hr))).2.1; omega)
        have RC0 := rread_calls hPs base _ rows HP2.out.rp xa xb hxa1 hxb1 HOK.out.lo (by have := HOK.out.hi; omega) HOK.out.len
        rw [hR] at RC0
        have RC := Lib.hid RC0
        have BC := Lib.hid (fun w' (m : Mod (wr.alloc (.cells #[.int .i64 1, .int .i64 xa, .int .i64 xb, .slice ua xs.length uc] 28)) w' []) => by
          have h := read_calls (HP2.out.mod m).bk xa xb hxa1 hxb1 HOK.out.lo (by have := HOK.out.hi; omega) HOK.out.len (fun r hr => (mayB_vals (HOK.out.may r hr)).2.1)
          rw [hR] at h
          exact h)
        clear RC0 hR
        obtain ⟨Ro, Rn, Re⟩ := R
        simp only at HRl HRm
        have hRl' : (Ro.length : Int) ≤ 64 := by have := HRl.out; omega
        have hb2 := HP2.out.br
        have z0 := hb2.cell 0
        have z1 := hb2.cell 1
        clear hb2
        go_wp2_with fail
        (with_reducible refine (RC.out).mono ?_)
        rintro e w4 ⟨hm4, v4, rfl, hrp4⟩
        obtain ⟨a4, c4, rfl, hc4⟩ := hrp4.slice
        have HF := Lib.hid (HP2.out.mod hm4)
        have HXC := Lib.hid (HXB.out.mod hm4 (by simp))
        have HV4 := Lib.hid hrp4
        have f1 := HXC.out.cell 1
        have f2 := HXC.out.cell 2
        have BC4 := Lib.hid (BC.out w4 hm4)
        clear hm4 hrp4 hc4 RC BC e0 e1 e2 e3 z0 z1
        simp only at BC4 HV4
        go_wp2_with fail
        (with_reducible refine (BC4.out).mono ?_)
        rintro e w5 ⟨v5, rfl, hm5, ho5⟩
        simp only at ho5
        obtain ⟨a5, c5, e5, -⟩ := Tr.of ho5
        subst e5
        have RW := Lib.hid (rows_calls _ Ro ho5 (by omega))
        have HO5 := Lib.hid ho5
        have HM5 := Lib.hid hm5
        clear hm5 ho5 BC4 f1 f2
        go_wp2_with fail
        (with_reducible refine (RW.out).mono ?_)
        rintro e w6 ⟨v6, rfl, hm6, hr6⟩
        have SM0 := rsame_calls v6 (.slice a4 Ro.length c4) Ro Ro hr6 ((HV4.out.at (N := w.heap.size) (fun u xs hq => hq.kept (Kept.mod HF.out.md))).mod (HM5.out.trans0 hm6)) (by omega) (by omega) HRm.out HRm.out
        rw [decide_eq_true rfl] at SM0
        have SM := Lib.hid SM0
        have HM6 := Lib.hid (HM5.out.trans0 hm6)
        have HT6 := Lib.hid ((Tr.of HO5.out).mod hm6)
        clear SM0 hm6 hr6 HM5 HO5 RW
        go_wp2_with fail
        (with_reducible refine (SM.out).mono ?_)
        rintro e w7 ⟨rfl, hm7⟩
        have HM7 := Lib.hid (HM6.out.trans0 hm7)
        have HT7 := Lib.hid (HT6.out.mod hm7)
        clear hm7 HM6 HT6 SM
        go_wp2_with fail
        obtain ⟨wo, rfl⟩ : ∃ wo, wo = wr := ⟨_, rfl⟩
        go_loopw [17] (fun vk wr2 => ∃ k : Nat, vk = .int .i64 (k : Int) ∧ k ≤ Ro.length ∧ Mod w4 wr2 [] ∧ Tr w4.heap.size wr2 (.slice a5 Ro.length c5) Ro.length) (fun vk _ => Ro.length + 1 - (intOf vk).toNat)
        case atStart => exact ⟨0, rfl, Nat.zero_le _, HM7.out, HT7.out⟩
        case round =>
          obtain ⟨k, rfl, hk, hmk, htk⟩ := hrel
          have HMK := Lib.hid hmk
          have HTK := Lib.hid htk
          clear hmk htk HM7 HT7
          by_cases hkl : k < Ro.length
          · have hkl' : (k : Int) < Ro.length := by omega
            obtain ⟨ad', cap', e', hcap', hh⟩ := HTK.out
            injection e' with e1 e2 e3
            clear e2
            subst e1 e3
            obtain ⟨b, cs0, rfl, hb, hrow⟩ := hh.resolve_left (by omega)
            obtain ⟨rb, rn, rc, r1, r2, r3, r4, cs, r5, r6⟩ := hrow k hkl
            have hcapk : (Ro.length : Int) ≤ c5 := by omega
            have y0 := r5.free 0
            have y1 : wr.cell? ⟨rb, 0, none⟩ = some cs[0] := by rw [r5.cell]; simp [r6]
            have hrn : (0 : Int) < rn := by omega
            have hrn1 : (1 : Int) ≤ rn := by omega
            have hrc : (rn : Int) ≤ rc := by omega
            have HT' := Lib.hid (HTK.out.put r5 (.int .i64 (-5)))
            have HM' := Lib.hid (HMK.out.setCell (p := ⟨rb, 0, none⟩) (.inr r4) (.int .i64 (-5)))
            clear hh hrow r5 hb
            go_wp2_with fail
            go_roundw
            case rel => exact ⟨k + 1, by go_num, by omega, HM'.out, HT'.out⟩
            case measure => simp [intOf]; omega
          · have hkl' : (Ro.length : Int) ≤ k := by omega
            have HPz := Lib.hid (HF.out.mod HMK.out)
            have SC := Lib.hid HPz.out.same
            have hbz := HPz.out.br
            have z0 := hbz.cell 0
            have z1 := hbz.cell 1
            clear hbz
            go_wp2_with fail
            (with_reducible refine (SC.out).mono ?_)
            rintro e wy ⟨rfl, hmy⟩
            have HPy := Lib.hid (HPz.out.mod hmy)
            clear hmy SC HPz z0 z1
            go_wp2_with fail
            go_roundw
            case rel => exact ⟨i + 1, N, g, base, rows, _, rfl, by go_num, by omega, by omega, HPy.out⟩
            case measure => simp [intOf]; omega
      by_cases k2 : xk = 2
      · subst k2
        have FC := Lib.hid (rforget_calls base _ rows HP2.out.rp xa HP2.out.ok.lo (by have := HP2.out.ok.hi; omega) HP2.out.ok.len)
        have hb2 := HP2.out.br
        have z0 := hb2.cell 0
        have z1 := hb2.cell 1
        clear hb2
        go_wp2_with fail
        (with_reducible refine (FC.out).mono ?_)
        rintro e w4 ⟨hm4, v4, rfl, hrp4⟩
        obtain ⟨a4, c4, rfl, hc4⟩ := hrp4.slice
        have HF := Lib.hid (HP2.out.mod hm4)
        have HXC := Lib.hid (HXB.out.mod hm4 (by simp))
        have HRP := Lib.hid hrp4
        have hbr := HF.out.br
        have y0 := hbr.free 0
        have y1 := hbr.free 1
        have y2 := hbr.cell 0
        have y3 := hbr.cell 1
        have hne := blk_ne hbr HXC.out (by decide)
        have OKF := Lib.hid (okb_forget HF.out.ok xa)
        have HOKB := Lib.hid HF.out.ok
        obtain ⟨R, hR⟩ : ∃ R, forgetS base rows xa = R := ⟨_, rfl⟩
        rw [hR] at OKF HRP ⊢
        obtain ⟨Rc, Rb, Rr⟩ := R
        simp only at OKF HRP
        have HR := Lib.hid hR
        clear hR hc4
        obtain ⟨w5, hw5⟩ : ∃ w5, (w4.setCell ⟨BR, 0, none⟩ (.int .i64 Rb)).setCell ⟨BR, 1, none⟩ (.slice a4 Rr.length c4) = w5 := ⟨_, rfl⟩
        have HM5 := Lib.hid (PlM.store HF.out.md HF.out.lo HF.out.hi HF.out.lb HF.out.bk hbr OKF.out HRP.out hw5)
        have hx5 : Blk w5 wr.heap.size #[.int .i64 2, .int .i64 xa, .int .i64 xb, .slice ua xs.length uc] 28 := by
          rw [← hw5]
          exact (HXC.out.far (p := ⟨BR, 0, none⟩) hne.symm _).far (p := ⟨BR, 1, none⟩) hne.symm _
        have q1 := hx5.cell 1
        clear hbr hx5 hrp4 hm4 e0 e1 e2 e3 z0 z1
        have GC0 := forget_calls HM5.out.bk xa HOKB.out.lo (by have := HOKB.out.hi; omega) HOKB.out.len HM5.out.hi
        rw [HR.out] at GC0
        have GC := Lib.hid GC0
        clear GC0
        go_wp2_with fail
        (with_reducible refine (GC.out).mono ?_)
        rintro e w6 ⟨rfl, hk6, hw6⟩
        have HPz := Lib.hid (HM5.out.step hk6 hw6).toS
        clear hk6 hw6 GC HM5 hw5 q1 y0 y1 y2 y3
        have SC := Lib.hid HPz.out.same
        have hbz := HPz.out.br
        have z0 := hbz.cell 0
        have z1 := hbz.cell 1
        clear hbz
        go_wp2_with fail
        (with_reducible refine (SC.out).mono ?_)
        rintro e wy ⟨rfl, hmy⟩
        have HPy := Lib.hid (HPz.out.mod hmy)
        clear hmy SC HPz z0 z1
        go_wp2_with fail
        go_roundw
        case rel => exact ⟨i + 1, N, g, Rb, Rr, _, rfl, by go_num, by omega, by omega, HPy.out⟩
        case measure => simp [intOf]; omega
      by_cases k3 : xk = 3
      · subst k3
        have HR16 : Hid (∀ r ∈ rows, r.length ≤ 16 ∧ ∀ x ∈ r, 0 ≤ x ∧ x ≤ 9223372036854775807) := Lib.hid (fun r hr => by
          obtain ⟨_, h2, h3⟩ := mayB_vals (HP2.out.ok.may r hr)
          exact ⟨h2, fun x hx => by have := h3 x hx; omega⟩)
        have TC := Lib.hid (text_calls HP2.out.bk HP2.out.ok.lo (by have := HP2.out.ok.hi; omega) HP2.out.ok.len HR16.out)
        have hts : (txt base rows).size ≤ 9007199254740992 := by
          have h1 := (rowsT_size (headT base rows.length) rows (fun r hr => (HR16.out r hr).1)).2
          have h2 := headT_size base rows.length
          have h3 := HP2.out.ok.len
          unfold txt
          omega
        have LC := Lib.hid (fun w' => load_calls (txt base rows) w' hts)
        rw [load_txt HP2.out.ok] at LC
        clear hts
        go_wp2_with fail
        (with_reducible refine (TC.out).mono ?_)
        rintro e w4 ⟨rfl, hm4⟩
        have HF := Lib.hid (HP2.out.mod hm4)
        clear hm4 TC e0 e1 e2 e3
        go_wp2_with fail
        refine (LC.out _).mono ?_
        rintro e w5 ⟨hm5, g5, rfl, hk5⟩
        have HPz : Hid (PlS w BR w4.heap.size g5 base rows (.slice va rows.length vc) w5) := Lib.hid ⟨HF.out.md.trans0 hm5, HF.out.md.size, hm5.size, HF.out.lb, hk5, HF.out.ok, HF.out.br.mod hm5 (by simp), HF.out.rp.mod hm5⟩
        have hs4 := HF.out.md.size
        clear hm5 hk5 LC
        have SC := Lib.hid HPz.out.same
        have hbz := HPz.out.br
        have z0 := hbz.cell 0
        have z1 := hbz.cell 1
        clear hbz
        go_wp2_with fail
        (with_reducible refine (SC.out).mono ?_)
        rintro e wy ⟨rfl, hmy⟩
        have HPy := Lib.hid (HPz.out.mod hmy)
        clear hmy SC HPz z0 z1
        go_wp2_with fail
        go_roundw
        case rel => exact ⟨i + 1, w4.heap.size, g5, base, rows, _, rfl, by go_num, by omega, by omega, HPy.out⟩
        case measure => simp [intOf]; omega
      have k0' : (xk == 0) = false := by rw [beq_eq_false_iff_ne]; exact k0
      have k1' : (xk == 1) = false := by rw [beq_eq_false_iff_ne]; exact k1
      have k2' : (xk == 2) = false := by rw [beq_eq_false_iff_ne]; exact k2
      have k3' : (xk == 3) = false := by rw [beq_eq_false_iff_ne]; exact k3
      have HPz := HP2
      have SC := Lib.hid HPz.out.same
      have hbz := HPz.out.br
      have z0 := hbz.cell 0
      have z1 := hbz.cell 1
      clear hbz
      go_wp2_with fail
      (with_reducible refine (SC.out).mono ?_)
      rintro e wy ⟨rfl, hmy⟩
      have HPy := Lib.hid (HPz.out.mod hmy)
      clear hmy SC HPz z0 z1
      go_wp2_with fail
      go_roundw
      case rel => exact ⟨i + 1, N, g, base, rows, _, rfl, by go_num, by omega, by omega, HPy.out⟩
      case measure => simp [intOf]; omega
    · have hgo1 : ¬ ((i : Int) < l.length ∧ (i : Int) < 150) := by omega
      have HB := Lib.hid HPL.out.md.below0
      clear HPL
      by_cases h1 : i < l.length
      · have h1' : (i : Int) < l.length := by omega
        have h2' : ¬ (i : Int) < 150 := by omega
        have h3' : (150 : Int) ≤ i := by omega
        go_wp2_with fail
        go_ret
        exact ⟨rfl, HB.out⟩
      · have h1' : ¬ (i : Int) < l.length := by omega
        have h3' : (l.length : Int) ≤ i := by omega
        go_wp2_with fail
        go_ret
        exact ⟨rfl, HB.out⟩
end Go.Proofs.Ytceocpohdckkoaa.Bx
end
