/- How arrays among the arguments read. -/
import Derived.Test.YtgmenlfhkhdbdaaOpen
import Derived.SizedLaws
import Derived.OpenShut
namespace Go.Proofs.Ytgmenlfhkhdbdaa.Open
open Go.ChangeShapes Go.WideShapes Go.Deep
set_option linter.unusedSimpArgs false
set_option linter.unusedVariables false

theorem sized_arg {H : Type} {P : Program} {ts : List TypeId} {ds : List (DataW H)} (h : (DataW.weightsEach P ts ds).all (· ≤ reachBytes) = true) {j : Nat} {t : TypeId} {d : DataW H} (ht : ts[j]? = some t) (hd : ds[j]? = some d) : ∀ n ∈ d.weights P t, n ≤ reachBytes := by
  intro n hn
  have := DataW.weights_mem_each ht hd n hn
  rw [List.all_eq_true] at h
  simpa using h n this

section
variable {H : Type} {enc : TypeId × Value → H} {P : Program} {w : World} {base : Nat} {spare : Nat → Bool} {held : Bool}

theorem okWide_array {n : Nat} {e t : TypeId} {r : Reach} {b0 : Nat} {v : Value} (ht : P.underlying t = some (.array n e)) (h : Value.okWide P w r b0 t v) : ∃ cs, v = .agg cs ∧ cs.size = P.cellsOf t := by
  simp only [Value.okWide, ht] at h
  obtain ⟨cs, h1, h2, _⟩ := h
  exact ⟨cs, h1, h2⟩

theorem mem_weightsAll {P : Program} {e : TypeId} : ∀ {ds : List (DataW H)} {d : DataW H}, d ∈ ds → ∀ n ∈ d.weights P e, n ∈ DataW.weightsAll P e ds
  | x :: r, d, h, n, hn => by
    simp only [DataW.weightsAll, List.mem_append]
    rcases List.mem_cons.1 h with rfl | h
    · exact .inl hn
    · exact .inr (mem_weightsAll h n hn)

/-- An array of one-cell elements: its cells, element by element. -/
theorem open_arr {n : Nat} {t e : TypeId} {r : Reach} {b0 : Nat} {v : Value} {d : DataW H} {ps : List MemPlace} {α : Type} (f : α → Value) (Q : α → Prop)
    (ht : P.underlying t = some (.array n e)) (hc : P.cellsOf e = 1) (hct : P.cellsOf t = n)
    (hel : ∀ fuel cs x, DataW.trod enc P w base spare held fuel e cs = some x → (∀ m ∈ x.1.weights P e, m ≤ reachBytes) → ∃ a, cs = [f a] ∧ Q a)
    (hval : Value.okWide P w r b0 t v) (hd : DataW.Trod enc P w base spare held t v d ps) (hw : ∀ m ∈ d.weights P t, m ≤ reachBytes) :
    ∃ l : List α, v = .agg (l.map f).toArray ∧ l.length = n ∧ ∀ a ∈ l, Q a := by
  obtain ⟨cs, rfl, hsz⟩ := okWide_array ht hval
  obtain ⟨fuel, hf⟩ := hd
  have hcells : (Value.agg cs).cells.toList = cs.toList := rfl
  rw [hcells] at hf
  obtain ⟨xs, m, rfl, hx, hlen, hxn, hel2⟩ := DataW.trod_array ht hf
  rw [hc] at hel2
  rw [hct] at hlen hsz
  injection hx with hx1 hx2
  subst hx1
  have hwts : ∀ y ∈ xs, ∀ k ∈ y.1.weights P e, k ≤ reachBytes := by
    intro y hy k hk
    apply hw
    simp only [DataW.weights, ht]
    exact mem_weightsAll (List.mem_map.2 ⟨y, hy, rfl⟩) k hk
  obtain ⟨L, hL, hp⟩ := choose_row (m := n) (fun i a => cs.toList[i]? = some (f a) ∧ Q a) (fun i hi => by
    have h1 := hel2 i hi
    rw [Nat.mul_one] at h1
    have hix : i < xs.length := by omega
    rw [List.getElem?_eq_getElem hix] at h1
    obtain ⟨a, ha, hq⟩ := hel _ _ _ h1 (hwts _ (List.getElem_mem hix))
    refine ⟨a, ?_, hq⟩
    have h2 := congrArg (·[0]?) ha
    simp only [List.getElem?_cons_zero] at h2
    rw [List.getElem?_take, if_pos (by omega), List.getElem?_drop] at h2
    simpa using h2)
  refine ⟨L, ?_, hL, ?_⟩
  · congr 1
    apply Array.ext'
    rw [List.toList_toArray]
    apply List.ext_getElem?
    intro i
    by_cases hi : i < L.length
    · rw [(hp i hi).1, List.getElem?_map, List.getElem?_eq_getElem hi]; rfl
    · rw [List.getElem?_eq_none (by omega), List.getElem?_eq_none (by simp; omega)]
  · intro a ha
    obtain ⟨i, hi, rfl⟩ := List.getElem_of_mem ha
    exact (hp i hi).2

theorem open_str2 {t e : TypeId} {r : Reach} {b0 : Nat} {v : Value} {d : DataW H} {ps : List MemPlace} (ht : P.underlying t = some (.array 2 e)) (he : P.underlying e = some .string) (hc : P.cellsOf e = 1) (hct : P.cellsOf t = 2)
    (hval : Value.okWide P w r b0 t v) (hd : DataW.Trod enc P w base spare held t v d ps) (hw : ∀ m ∈ d.weights P t, m ≤ reachBytes) :
    ∃ a : ByteArray × ByteArray, v = .agg #[.string a.1, .string a.2] ∧ a.1.size ≤ 140737488351232 ∧ a.2.size ≤ 140737488351232 := by
  obtain ⟨l, rfl, hl, hq⟩ := open_arr (fun s : ByteArray => Value.string s) (fun s => s.size ≤ 140737488351232) ht hc hct (fun fuel cs x h hwx => by
    obtain ⟨s, rfl, rfl, _⟩ := DataW.trod_string he h
    refine ⟨s, rfl, ?_⟩
    have := hwx s.data.toList.length (by simp [DataW.weights])
    rw [Array.length_toList] at this
    exact this) hval hd hw
  match l, hl with
  | [a, b], _ => exact ⟨(a, b), rfl, hq a (by simp), hq b (by simp)⟩
end
end Go.Proofs.Ytgmenlfhkhdbdaa.Open
