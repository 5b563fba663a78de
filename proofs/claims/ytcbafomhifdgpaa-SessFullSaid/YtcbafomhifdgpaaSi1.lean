/- Copies into rows of structs; what is put into a row. -/
import Derived.Test.YtcbafomhifdgpaaRow
import Derived.Laws.CopyRow
import Derived.Laws.AppendOwn
import Derived.Laws.Externs
import Derived.Lib.AppendZerosOnto
import Derived.Lib.Overlaps
namespace Go.Proofs.Ytcbafomhifdgpaa.Si
open Go.RowKit Mem
set_option linter.unusedSimpArgs false
set_option linter.unusedVariables false
variable {P : Program}

/-- A block's cells, cs put over them from o on. -/
def over (cur : Array Value) (o : Nat) (cs : List Value) : Array Value := (cur.toList.take o ++ cs ++ cur.toList.drop (o + cs.length)).toArray

theorem over_size (cur : Array Value) (o : Nat) (cs : List Value) (h : o + cs.length ≤ cur.size) : (over cur o cs).size = cur.size := by
  simp only [over, List.size_toArray, List.length_append, List.length_take, List.length_drop, Array.length_toList]
  omega
theorem over_get (cur : Array Value) (o : Nat) (cs : List Value) (h : o + cs.length ≤ cur.size) (j : Nat) : (over cur o cs)[j]? = if o ≤ j ∧ j < o + cs.length then cs[j - o]? else cur[j]? := by
  simp only [over, List.getElem?_toArray]
  by_cases h1 : j < o
  · rw [List.append_assoc, List.getElem?_append_left (by simp; omega), List.getElem?_take, if_pos h1, if_neg (by omega)]
    simp
  · by_cases h2 : j < o + cs.length
    · rw [List.append_assoc, List.getElem?_append_right (by simp; omega), List.getElem?_append_left (by simp; omega), if_pos (by omega)]
      congr 1
      simp; omega
    · rw [List.getElem?_append_right (by simp; omega), List.getElem?_drop, if_neg (by omega)]
      simp only [List.length_append, List.length_take, Array.length_toList, Array.getElem?_toList]
      congr 1
      omega

/-- 'copy(d, s)' into a block: all is read before anything is written. -/
theorem run_copy_row (w : World) (dT sT ty elem : TypeId) (i : TypeInfo) (g o dLen dCap : Nat) (a : Addr) (sLen sCap : Nat) (cs : List Value) (cur : Array Value) (t : TypeId)
    (hu : P.underlying dT = some (.slice elem)) (hi : P.info? elem = some i) (m : Nat) (hm : m = Nat.min sLen dLen) (hn : cs.length = m * i.size)
    (hsrc : ∀ j v, cs[j]? = some v → w.cell? (a.add j) = some v) (hg : w.heap[g]? = some (.cells cur t (0, 0))) (hfit : o + cs.length ≤ cur.size) (h1 : ∀ v ∈ cs, v.oneCell' = true) :
    (Builtin.copy_ #[dT, sT] ty #[.slice (some ⟨g, o, none⟩) dLen dCap, .slice (some a) sLen sCap]).run P w = .ok (goInt m) (w.setRow g (over cur o cs)) := by
  subst hm
  have hl := run_firstCells_some (P := P) w i.size (Nat.min sLen dLen) a sLen sCap cs hn hsrc
  have hst := run_storeCells_at P g o t cs 0 cur w hg (by simpa using hfit) h1
  simp only [Nat.add_zero] at hst
  have hlen : (Builtin.lenOf (.slice (some a) sLen sCap)).run P w = .ok sLen w := rfl
  simp [Builtin.copy_, run_underlying hu, sizeOf, typeInfo, hi, hlen, hl, hst, over]

theorem grown_setRow (w : World) (g : Nat) (X : Array Value) : w.grownBy (w.setRow g X) (some g) :=
  ⟨rfl, rfl, rfl, by simp, fun k _ hk => setRow_other w g k _ (fun e => hk (by rw [e]))⟩
theorem Grown.trans {a b c : World} {row : Option Nat} (h : a.grownBy b row) (k : b.grownBy c row) : a.grownBy c row :=
  ⟨k.os.trans h.os, k.tape.trans h.tape, k.output.trans h.output, Nat.le_trans h.size k.size, fun i hi hn => (k.block i (Nat.lt_of_lt_of_le hi h.size) hn).trans (h.block i hi hn)⟩
theorem Grown.drew {a b : World} {row : Option Nat} (h : a.grownBy b row) : a.grownBy b.drew row := ⟨h.os, h.tape, h.output, h.size, h.block⟩
/-- .. a row that the call made may be written. -/
theorem Grown.fresh {a b : World} {row : Option Nat} (h : a.grownBy b row) {g : Nat} (hg : a.heap.size ≤ g) (X : Array Value) : a.grownBy (b.setRow g X) row :=
  ⟨h.os, h.tape, h.output, by simpa using h.size, fun i hi hn => (setRow_other b g i _ (by omega)).trans (h.block i hi hn)⟩
theorem Grown.alloc {a b : World} {row : Option Nat} (h : a.grownBy b row) (o : Obj) : a.grownBy (b.alloc o) row :=
  Grown.trans h (World.grownBy_alloc b o row)

/-- r put into xs at o. -/
def put (xs : List Value) (o : Nat) (r : List Value) : List Value := xs.take o ++ r ++ xs.drop o
theorem put_len (xs : List Value) (o : Nat) (r : List Value) (h : o ≤ xs.length) : (put xs o r).length = xs.length + r.length := by
  simp [put]; omega
theorem put_get (xs : List Value) (o : Nat) (r : List Value) (h : o ≤ xs.length) (j : Nat) : (put xs o r)[j]? = if j < o then xs[j]? else if j < o + r.length then r[j - o]? else xs[j - r.length]? := by
  unfold put
  by_cases h1 : j < o
  · rw [if_pos h1, List.append_assoc, List.getElem?_append_left (by simp; omega), List.getElem?_take, if_pos h1]
  · rw [if_neg h1]
    by_cases h2 : j < o + r.length
    · rw [if_pos h2, List.append_assoc, List.getElem?_append_right (by simp; omega), List.getElem?_append_left (by simp; omega)]
      congr 1
      simp; omega
    · rw [if_neg h2, List.getElem?_append_right (by simp; omega), List.getElem?_drop]
      congr 1
      simp; omega

/-- In place: what stood from o on moved up by r's length, then r at o. -/
theorem shift_take (cur : Array Value) (xs r : List Value) (o : Nat) (ho : o ≤ xs.length) (hx : cur.toList.take xs.length = xs) (hs : xs.length + r.length ≤ cur.size) :
    (over (over cur (o + r.length) (xs.drop o)) o r).toList.take (xs.length + r.length) = put xs o r := by
  have hx' : ∀ j, j < xs.length → cur[j]? = xs[j]? := fun j hj => by
    rw [← hx, List.getElem?_take, if_pos (by simpa using hj)]
    simp
  apply List.ext_getElem?
  intro j
  have hd : (xs.drop o).length = xs.length - o := by simp
  have hz := over_size cur (o + r.length) (xs.drop o) (by omega)
  rw [List.getElem?_take, put_get _ _ _ ho, Array.getElem?_toList, over_get _ _ _ (by omega), over_get _ _ _ (by omega)]
  by_cases h1 : j < xs.length + r.length
  · rw [if_pos h1]
    by_cases h2 : j < o
    · rw [if_neg (by omega), if_neg (by omega), if_pos h2, hx' j (by omega)]
    · rw [if_neg h2]
      by_cases h3 : j < o + r.length
      · rw [if_pos (by omega), if_pos h3]
      · rw [if_neg (by omega), if_pos (by omega), if_neg h3, List.getElem?_drop]
        congr 1
        omega
  · rw [if_neg h1, if_neg (by omega), if_neg (by omega)]
    rw [List.getElem?_eq_none (by omega)]

/-- A new row: what stood ahead of o, room, then r at o, then the rest. -/
theorem grow_take (xs r z : List Value) (o : Nat) (ho : o ≤ xs.length) (hz : xs.length - o + r.length ≤ z.length) :
    (over (over (xs.take o ++ z).toArray o r) (o + r.length) (xs.drop o)).toList.take (xs.length + r.length) = put xs o r := by
  apply List.ext_getElem?
  intro j
  have hd : (xs.drop o).length = xs.length - o := by simp
  have ht : (xs.take o).length = o := by simp; omega
  have hs : ((xs.take o ++ z).toArray).size = o + z.length := by simp; omega
  have hz1 := over_size (xs.take o ++ z).toArray o r (by omega)
  rw [List.getElem?_take, put_get _ _ _ ho, Array.getElem?_toList, over_get _ _ _ (by omega), over_get _ _ _ (by omega)]
  by_cases h1 : j < xs.length + r.length
  · rw [if_pos h1]
    by_cases h2 : j < o
    · rw [if_neg (by omega), if_neg (by omega), if_pos h2, List.getElem?_toArray, List.getElem?_append_left (by omega), List.getElem?_take, if_pos h2]
    · rw [if_neg h2]
      by_cases h3 : j < o + r.length
      · rw [if_neg (by omega), if_pos (by omega), if_pos h3]
      · rw [if_pos (by omega), if_neg h3, List.getElem?_drop]
        congr 1
        omega
  · rw [if_neg h1, if_neg (by omega), if_neg (by omega)]
    rw [List.getElem?_eq_none (by omega)]
end Go.Proofs.Ytcbafomhifdgpaa.Si
