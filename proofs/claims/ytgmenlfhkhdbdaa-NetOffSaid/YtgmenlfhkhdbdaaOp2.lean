/- How a slice of pairs of whole numbers among the arguments reads. -/
import Derived.Test.YtgmenlfhkhdbdaaRd
namespace Go.Proofs.Ytgmenlfhkhdbdaa.Open
open Go.ChangeShapes Go.WideShapes Go.Deep
set_option linter.unusedSimpArgs false
set_option linter.unusedVariables false
section
variable {H : Type} {enc : TypeId × Value → H} {P : Program} {w : World} {base : Nat}
def PrR (r : List Value) : Prop := ∃ x y : Int, r = [.int .i64 x, .int .i64 y] ∧ (Lit.int .i64 x).wf = true ∧ (Lit.int .i64 y).wf = true
def Prs (w : World) (a : Value) : Prop := ∃ rows : List (List Value), RowN w a 2 rows ∧ rows.length * 16 ≤ 140737488351232 ∧ ∀ r ∈ rows, PrR r
theorem arr2_rd {e i : TypeId} {fuel : Nat} {cs : List Value} {x : DataW H × List MemPlace} (he : P.underlying e = some (.array 2 i)) (hi : P.underlying i = some (.int .i64)) (hci : P.cellsOf i = 1) (hce : P.cellsOf e = 2)
    (h : DataW.trod enc P w base (fun _ => true) true fuel e cs = some x) : PrR cs := by
  obtain ⟨xs, m, rfl, _, hlen, hxn, hel⟩ := DataW.trod_array he h
  rw [hce] at hlen
  match cs, hlen with
  | [u, v], _ =>
    have h0 := hel 0 (by omega)
    have h1 := hel 1 (by omega)
    rw [hci] at h0 h1
    rw [List.getElem?_eq_getElem (by omega)] at h0 h1
    obtain ⟨n0, e0, _, w0⟩ := DataW.trod_int hi h0
    obtain ⟨n1, e1, _, w1⟩ := DataW.trod_int hi h1
    simp at e0 e1
    subst e0 e1
    exact ⟨n0, n1, rfl, w0, w1⟩
theorem prs_of {t e i : TypeId} {fuel : Nat} {cs : List Value} {x : DataW H × List MemPlace} (ht : P.underlying t = some (.slice e)) (he : P.underlying e = some (.array 2 i)) (hi : P.underlying i = some (.int .i64)) (hci : P.cellsOf i = 1) (hce : P.cellsOf e = 2) (hby : P.bytesOf e = 16)
    (h : DataW.trod enc P w base (fun _ => true) true fuel t cs = some x) (hw : ∀ m ∈ x.1.weights P t, m ≤ reachBytes) : ∃ a : Value, cs = [a] ∧ Prs w a := by
  rcases open_slice ht h with ⟨rfl, _⟩ | ⟨a, len0, cap0, m, n, D, Pl, rfl, _, hl, hm, hmm, rfl, hx⟩
  · exact ⟨_, rfl, [], ⟨none, 0, rfl, by simp, by simp, fun _ => ⟨rfl, rfl⟩, fun h => absurd rfl h, fun b off h => by cases h⟩, by simp, by simp⟩
  · simp only [if_true] at hmm
    subst hmm
    simp only [DataW.weights, ht, List.mem_cons, List.mem_append] at hw
    obtain ⟨L, hL, hp⟩ := choose_rows (m := len0) (fun i r => w.cells? base (a.add (i * 2)) 2 = some r ∧ PrR r) (fun j hj => by
      obtain ⟨cs', h1, h2⟩ := hx j (by omega)
      rw [hce] at h1
      exact ⟨cs', h1, arr2_rd he hi hci hce h2⟩)
    have hlen : ∀ r ∈ L, r.length = 2 := by
      intro r hr
      obtain ⟨i, hi, rfl⟩ := List.getElem_of_mem hr
      obtain ⟨x, y, e, _⟩ := (hp i hi).2
      rw [e]; rfl
    refine ⟨_, rfl, L, ⟨some a, m, by rw [hL], by omega, hm, fun h => (by cases h), ?_, ?_⟩, ?_, ?_⟩
    · intro hne h0
      have hpos : 0 < L.length := List.length_pos_iff.2 hne
      have h1 := (hp 0 hpos).1
      rw [Nat.zero_mul] at h1
      obtain ⟨_, hl1, hc1⟩ := World.cells?_some h1
      have hc0 := hc1 0 h0
      obtain ⟨bb, off, spot⟩ := a
      have h2 := hlen _ (List.getElem_mem hpos)
      rw [List.getElem?_eq_getElem (by omega)] at hc0
      have hspot : spot = none := by simpa [Addr.add] using World.cell?_spot hc0
      subst hspot
      exact ⟨bb, off, rfl⟩
    · rintro bb off h k hk c hc
      injection h with h
      subst h
      have h1 := (hp k hk).1
      obtain ⟨_, hl1, hc1⟩ := World.cells?_some h1
      have hc0 := hc1 c hc
      have h2 := hlen _ (List.getElem_mem hk)
      refine ⟨?_, by omega⟩
      rw [Go.WideShapes.add_plain, Go.WideShapes.add_plain] at hc0
      exact hc0
    · rw [hL, ← hby]
      have := hw _ (.inl rfl)
      simp only [List.length_map, List.length_range] at this
      refine Nat.le_trans (Nat.mul_le_mul_right _ (by omega)) this
    · intro r hr
      obtain ⟨i, hi, rfl⟩ := List.getElem_of_mem hr
      exact (hp i hi).2
theorem open_prs {t e i : TypeId} {r : Reach} {b0 : Nat} {v : Value} {d : DataW H} {ps : List MemPlace} (ht : P.underlying t = some (.slice e)) (he : P.underlying e = some (.array 2 i)) (hi : P.underlying i = some (.int .i64)) (hci : P.cellsOf i = 1) (hce : P.cellsOf e = 2) (hby : P.bytesOf e = 16)
    (hval : Value.okWide P w r b0 t v) (hd : DataW.Trod enc P w base (fun _ => true) true t v d ps) (hw : ∀ m ∈ d.weights P t, m ≤ reachBytes) :
    ∃ a : Value, v = a ∧ Prs w a := by
  obtain ⟨a0, len0, cap0, rfl⟩ := okWide_slice ht hval
  obtain ⟨fuel, h⟩ := hd
  obtain ⟨a, e1, h2⟩ := prs_of ht he hi hci hce hby h hw
  have e2 : [Value.slice a0 len0 cap0] = [a] := e1
  injection e2 with e2 _
  exact ⟨a, e2, h2⟩
end
theorem prs_rd {w : World} {a : Value} (h : Prs w a) : ∃ (l : List (Int × Int)) (ad : Option Addr) (cap : Nat), a = .slice ad l.length cap ∧ l.length ≤ 140737488351232 ∧
    (l = [] ∨ ∃ b off, ad = some ⟨b, off, none⟩ ∧ ∀ k (hk : k < l.length), w.cell? ⟨b, off + k * 2, none⟩ = some (.int .i64 l[k].1) ∧ w.cell? ⟨b, off + k * 2 + 1, none⟩ = some (.int .i64 l[k].2)) := by
  obtain ⟨rows, ⟨ad, cap, rfl, hc1, hc2, hn, hpos, hcell⟩, hlen, hrd⟩ := h
  obtain ⟨l, rfl, hl⟩ := rows_map (rows := rows) (fun x : Int × Int => [Value.int .i64 x.1, .int .i64 x.2]) (fun _ => True) (fun r hr => by
    obtain ⟨x, y, rfl, _⟩ := hrd r hr
    exact ⟨(x, y), rfl, trivial⟩)
  refine ⟨l, ad, cap, by simp, by simp at hlen; omega, ?_⟩
  by_cases h0 : l = []
  · exact .inl h0
  · obtain ⟨b, off, rfl⟩ := hpos (by simpa using h0) (by decide)
    refine .inr ⟨b, off, rfl, fun i hi => ?_⟩
    have h := fun c hc => (hcell b off rfl i (by simpa using hi) c hc).1
    simp only [List.getElem_map] at h
    exact ⟨h 0 (by decide), h 1 (by decide)⟩
end Go.Proofs.Ytgmenlfhkhdbdaa.Open
