/- How any argument reads: by the shape of its type, cell by cell. -/
import Derived.Test.YtgmenlfhkhdbdaaOpen2
namespace Go.Proofs.Ytgmenlfhkhdbdaa.Open
open Go.ChangeShapes Go.WideShapes Go.Deep
set_option linter.unusedSimpArgs false
set_option linter.unusedVariables false

/-- The shape of a type: 'st' of the fields, which are 'cat' .. 'nil'; 'sl' of an element and its bytes. -/
inductive Sh where
  | int (k : IntKind) | flt | str | bool | nil | cat (a b : Sh) | st (s : Sh) | sl (e : Sh) (bytes : Nat)

def Sh.cells : Sh → Nat
  | .int _ | .flt | .str | .bool | .sl _ _ => 1
  | .nil => 0
  | .cat a b => a.cells + b.cells
  | .st s => s.cells

/-- Rows of n cells, read at the front of a slice. -/
def RowN (w : World) (v : Value) (n : Nat) (rows : List (List Value)) : Prop :=
  ∃ (a : Option Addr) (cap : Nat), v = .slice a rows.length cap ∧ rows.length ≤ cap ∧ cap ≤ maxLen ∧ (a = none → rows = [] ∧ cap = 0) ∧
    (rows ≠ [] → 0 < n → ∃ b off, a = some ⟨b, off, none⟩) ∧ ∀ b off, a = some ⟨b, off, none⟩ → ∀ k (h : k < rows.length) c (hc : c < n), w.cell? ⟨b, off + k * n + c, none⟩ = rows[k][c]? ∧ c < rows[k].length

def Rd (w : World) : Sh → List Value → Prop
  | .int k, cs => ∃ n, cs = [.int k n] ∧ (Lit.int k n).wf = true
  | .flt, cs => ∃ b, cs = [.float .f64 b] ∧ (Lit.float .f64 b).wf = true
  | .str, cs => ∃ s : ByteArray, cs = [.string s] ∧ s.size ≤ 140737488351232
  | .bool, cs => ∃ b, cs = [.bool b]
  | .nil, cs => cs = []
  | .cat a b, cs => ∃ x y, cs = x ++ y ∧ Rd w a x ∧ Rd w b y
  | .st s, cs => Rd w s cs
  | .sl e by', cs => ∃ v rows, cs = [v] ∧ RowN w v e.cells rows ∧ rows.length * by' ≤ 140737488351232 ∧ (∀ r ∈ rows, r.length = e.cells) ∧ ∀ r ∈ rows, Rd w e r

theorem Rd.len {w : World} : ∀ {s : Sh} {cs : List Value}, Rd w s cs → cs.length = s.cells
  | .int _, _, h => by obtain ⟨n, rfl, _⟩ := h; rfl
  | .flt, _, h => by obtain ⟨n, rfl, _⟩ := h; rfl
  | .str, _, h => by obtain ⟨n, rfl, _⟩ := h; rfl
  | .bool, _, h => by obtain ⟨n, rfl⟩ := h; rfl
  | .nil, _, h => by cases h; rfl
  | .cat a b, _, h => by obtain ⟨x, y, rfl, h1, h2⟩ := h; simp [Sh.cells, h1.len, h2.len]
  | .st s, _, h => by have : Rd w s _ := h; exact this.len
  | .sl e b, _, h => by obtain ⟨v, r, rfl, _⟩ := h; rfl

def fits (P : Program) : Sh → TypeId ⊕ (List Field × Nat) → Bool
  | .int k, .inl t => match P.underlying t with | some (.int k') => k' == k | _ => false
  | .flt, .inl t => match P.underlying t with | some (.float .f64) => true | _ => false
  | .str, .inl t => match P.underlying t with | some .string => true | _ => false
  | .bool, .inl t => match P.underlying t with | some .bool => true | _ => false
  | .sl e b, .inl t => match P.underlying t with | some (.slice e') => P.bytesOf e' == b && P.cellsOf e' == e.cells && fits P e (.inl e') | _ => false
  | .st s, .inl t => match P.underlying t with | some (.struct fs) => P.cellsOf t == s.cells && fits P s (.inr (fs.toList, 0)) | _ => false
  | .nil, .inr (fs, _) => fs.isEmpty
  | .cat a b, .inr (fs, o) => match fs with | f :: r => f.offset == o && P.cellsOf f.type == a.cells && fits P a (.inl f.type) && fits P b (.inr (r, o + a.cells)) | [] => false
  | _, _ => false

section
variable {H : Type} {enc : TypeId × Value → H} {P : Program} {w : World} {base : Nat}

theorem weights_range {e : TypeId} {D : Nat → DataW H} {n i : Nat} (hi : i < n) : ∀ k ∈ (D i).weights P e, k ∈ DataW.weightsAll P e ((List.range n).map D) := by
  intro k hk
  exact mem_weightsAll (List.mem_map.2 ⟨i, List.mem_range.2 hi, rfl⟩) k hk

theorem choose_rows {m : Nat} {α : Type} (p : Nat → α → Prop) (h : ∀ i, i < m → ∃ a, p i a) : ∃ l : List α, l.length = m ∧ ∀ i (hi : i < l.length), p i l[i] := choose_row p h

theorem open_rd : ∀ (s : Sh),
    (∀ (t : TypeId) (fuel : Nat) (cs : List Value) (x : DataW H × List MemPlace), fits P s (.inl t) = true → DataW.trod enc P w base (fun _ => true) true fuel t cs = some x → (∀ m ∈ x.1.weights P t, m ≤ reachBytes) → Rd w s cs) ∧
    (∀ (fs : List Field) (o n : Nat) (cs : List Value) (xs : List (DataW H × List MemPlace)), fits P s (.inr (fs, o)) = true → xs.length = fs.length →
      (∀ (i : Nat) (f : Field), fs[i]? = some f → DataW.trod enc P w base (fun _ => true) true n f.type ((cs.drop f.offset).take (P.cellsOf f.type)) = xs[i]?) →
      (∀ m ∈ DataW.weightsEach P (fs.map (·.type)) (xs.map (·.1)), m ≤ reachBytes) → cs.length = o + s.cells → Rd w s (cs.drop o))
  | .int k => ⟨(fun t fuel cs x hf h hw => by
      simp only [fits] at hf
      split at hf
      · rename_i k' ht
        obtain ⟨n, rfl, _, hwf⟩ := DataW.trod_int ht h
        have : k' = k := by simpa using hf
        subst this
        exact ⟨n, rfl, hwf⟩
      · cases hf), (fun fs o n cs xs hf => by simp [fits] at hf)⟩
  | .flt => ⟨(fun t fuel cs x hf h hw => by
      simp only [fits] at hf
      split at hf
      · rename_i ht
        exact trod_float ht h
      · cases hf), (fun fs o n cs xs hf => by simp [fits] at hf)⟩
  | .str => ⟨(fun t fuel cs x hf h hw => by
      simp only [fits] at hf
      split at hf
      · rename_i ht
        obtain ⟨s, rfl, rfl, _⟩ := DataW.trod_string ht h
        refine ⟨s, rfl, ?_⟩
        have := hw s.data.toList.length (by simp [DataW.weights])
        rw [Array.length_toList] at this
        exact this
      · cases hf), (fun fs o n cs xs hf => by simp [fits] at hf)⟩
  | .bool => ⟨(fun t fuel cs x hf h hw => by
      simp only [fits] at hf
      split at hf
      · rename_i ht
        obtain ⟨b, rfl, _⟩ := DataW.trod_bool ht h
        exact ⟨b, rfl⟩
      · cases hf), (fun fs o n cs xs hf => by simp [fits] at hf)⟩
  | .nil => ⟨(fun t fuel cs x hf => by simp [fits] at hf), fun fs o n cs xs hf hl hx hw hcs => by
      show cs.drop o = []
      apply List.drop_eq_nil_of_le
      rw [hcs]; exact Nat.le_refl _⟩
  | .st s => ⟨(fun t fuel cs x hf h hw => by
      simp only [fits] at hf
      split at hf
      · rename_i fs ht
        simp only [Bool.and_eq_true, beq_iff_eq] at hf
        obtain ⟨hc, hf⟩ := hf
        obtain ⟨xs, n, _, rfl, hlen, hxs, hx⟩ := DataW.trod_struct ht h
        have := (open_rd s).2 fs.toList 0 n cs xs hf (by simpa using hxs) (fun i f hif => hx i f (by simpa using hif)) (fun m hm => hw m (by simp only [DataW.weights, ht]; exact hm)) (by rw [hlen, hc]; simp)
        exact this
      · cases hf), (fun fs o n cs xs hf => by simp [fits] at hf)⟩
  | .cat a b => ⟨(fun t fuel cs x hf => by simp [fits] at hf), fun fs o n cs xs hf hl hx hw hcs => by
      match fs, xs, hl with
      | f :: fs, x :: xs, hl =>
        simp only [fits, Bool.and_eq_true, beq_iff_eq] at hf
        obtain ⟨⟨⟨ho, hca⟩, hfa⟩, hfb⟩ := hf
        have h0 := hx 0 f rfl
        rw [ho, hca] at h0
        have hwa : ∀ m ∈ x.1.weights P f.type, m ≤ reachBytes := fun m hm => hw m (by simp only [List.map_cons, DataW.weightsEach, List.mem_append]; exact .inl hm)
        have ha := (open_rd a).1 f.type n _ x hfa h0 hwa
        have hb := (open_rd b).2 fs (o + a.cells) n cs xs hfb (by simpa using hl) (fun i g hig => hx (i + 1) g (by simpa using hig)) (fun m hm => hw m (by simp only [List.map_cons, DataW.weightsEach, List.mem_append]; exact .inr hm)) (by rw [hcs]; simp [Sh.cells]; omega)
        refine ⟨_, _, ?_, ha, hb⟩
        rw [← List.drop_drop, List.take_append_drop]⟩
  | .sl e b => ⟨(fun t fuel cs x hf h hw => by
      simp only [fits] at hf
      split at hf
      · rename_i e' ht
        simp only [Bool.and_eq_true, beq_iff_eq] at hf
        obtain ⟨⟨hby, hce⟩, hfe⟩ := hf
        rcases open_slice ht h with ⟨rfl, _⟩ | ⟨a, len, cap, m, n, D, Pl, rfl, _, hl, hm, hmm, rfl, hx⟩
        · exact ⟨_, [], rfl, ⟨none, 0, rfl, by simp, by simp, fun _ => ⟨rfl, rfl⟩, fun h => absurd rfl h, fun b off h => by cases h⟩, by simp, by simp, by simp⟩
        · simp only [if_true] at hmm
          subst hmm
          simp only [DataW.weights, ht, List.mem_cons, List.mem_append] at hw
          obtain ⟨L, hL, hp⟩ := choose_rows (m := len) (fun i r => w.cells? base (a.add (i * e.cells)) e.cells = some r ∧ Rd w e r) (fun i hi => by
            obtain ⟨cs', h1, h2⟩ := hx i (by omega)
            rw [hce] at h1
            exact ⟨cs', h1, (open_rd e).1 e' n cs' _ hfe h2 (fun k hk => hw k (.inr (.inl (weights_range hi k hk))))⟩)
          have hlen : ∀ r ∈ L, r.length = e.cells := by
            intro r hr
            obtain ⟨i, hi, rfl⟩ := List.getElem_of_mem hr
            exact (hp i hi).2.len
          refine ⟨_, L, by rw [← hL], ⟨some a, m, rfl, by omega, hm, fun h => (by cases h), ?_, ?_⟩, ?_, hlen, ?_⟩
          · intro hne h0
            have hpos : 0 < L.length := List.length_pos_iff.2 hne
            have h1 := (hp 0 hpos).1
            rw [Nat.zero_mul] at h1
            obtain ⟨_, hl1, hc1⟩ := World.cells?_some h1
            have hc0 := hc1 0 h0
            obtain ⟨bb, off, spot⟩ := a
            have h2 := hlen _ (List.getElem_mem hpos)
            rw [List.getElem?_eq_getElem (by omega)] at hc0
            have hspot : spot = none := by simpa [Addr.add] using World.cell?_spot hc0
            subst hspot
            exact ⟨bb, off, rfl⟩
          · rintro bb off h k hk c hc
            injection h with h
            subst h
            have h1 := (hp k hk).1
            obtain ⟨_, hl1, hc1⟩ := World.cells?_some h1
            have hc0 := hc1 c hc
            have h2 := hlen _ (List.getElem_mem hk)
            refine ⟨?_, by omega⟩
            rw [Go.WideShapes.add_plain, Go.WideShapes.add_plain] at hc0
            exact hc0
          · rw [hL, ← hby]
            have := hw _ (.inl rfl)
            simp only [List.length_map, List.length_range] at this
            refine Nat.le_trans (Nat.mul_le_mul_right _ (by omega)) this
          · intro r hr
            obtain ⟨i, hi, rfl⟩ := List.getElem_of_mem hr
            exact (hp i hi).2
      · cases hf), (fun fs o n cs xs hf => by simp [fits] at hf)⟩

/-- An argument of a shape: for rows. -/
theorem open_st {t : TypeId} {fs : Array Field} {r : Reach} {b0 : Nat} {v : Value} {d : DataW H} {ps : List MemPlace} (s : Sh) (ht : P.underlying t = some (.struct fs)) (hf : fits P s (.inl t) = true)
    (hval : Value.okWide P w r b0 t v) (hd : DataW.Trod enc P w base (fun _ => true) true t v d ps) (hw : ∀ m ∈ d.weights P t, m ≤ reachBytes) :
    ∃ cs : Array Value, v = .agg cs ∧ Rd w s cs.toList := by
  simp only [Value.okWide, ht] at hval
  obtain ⟨cs, rfl, _⟩ := hval
  obtain ⟨fuel, h⟩ := hd
  exact ⟨cs, rfl, (open_rd s).1 t fuel _ _ hf h hw⟩
theorem open_sl {t e : TypeId} {r : Reach} {b0 : Nat} {v : Value} {d : DataW H} {ps : List MemPlace} (s : Sh) (n : Nat) (ht : P.underlying t = some (.slice e)) (hf : fits P (.sl s n) (.inl t) = true)
    (hval : Value.okWide P w r b0 t v) (hd : DataW.Trod enc P w base (fun _ => true) true t v d ps) (hw : ∀ m ∈ d.weights P t, m ≤ reachBytes) :
    ∃ a : Value, v = a ∧ Rd w (.sl s n) [a] := by
  obtain ⟨a0, len, cap, rfl⟩ := okWide_slice ht hval
  obtain ⟨fuel, h⟩ := hd
  exact ⟨_, rfl, (open_rd (.sl s n)).1 t fuel _ _ hf h hw⟩
end

theorem rows_map {α : Type} {rows : List (List Value)} (f : α → List Value) (Q : α → Prop) (h : ∀ r ∈ rows, ∃ a, r = f a ∧ Q a) : ∃ L : List α, rows = L.map f ∧ ∀ a ∈ L, Q a := by
  induction rows with
  | nil => exact ⟨[], rfl, by simp⟩
  | cons r rows ih =>
    obtain ⟨a, rfl, ha⟩ := h r (by simp)
    obtain ⟨L, rfl, hL⟩ := ih (fun r hr => h r (by simp [hr]))
    exact ⟨a :: L, rfl, by simpa using ⟨ha, hL⟩⟩
end Go.Proofs.Ytgmenlfhkhdbdaa.Open
