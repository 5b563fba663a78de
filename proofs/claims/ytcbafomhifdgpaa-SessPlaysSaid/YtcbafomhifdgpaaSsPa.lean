/- Tables of sessions: their parts. -/
import Derived.Test.YtcbafomhifdgpaaRow
import Derived.Laws.CopyRow
import Derived.Laws.AppendOwn
import Derived.Laws.Externs
import Derived.Lib.AppendZerosOnto
import Derived.Lib.Overlaps
import Derived.Test.YtcbafomhifdgpaaSb
import Derived.Lib.Walk
import Derived.Lib.SliceRun
import Derived.Lib.JoinLaws
import Derived.Lib.AppendZeros
import Derived.Shelf.Spec.SlicesInsert
import Derived.Shelf.Spec.SlicesInsertGrow
import Derived.Test.YtcbafomhifdgpaaKe3
import Derived.Test.YtcbafomhifdgpaaFx
import Derived.Test.YtcbafomhifdgpaaKd9
section
/- Copies into rows of structs; what is put into a row. -/
namespace Go.Proofs.Ytcbafomhifdgpaa.Si
open Go.RowKit Mem
set_option linter.unusedSimpArgs false
set_option linter.unusedVariables false
variable {P : Program}

/-- A block's cells, cs put over them from o on. -/
def over (cur : Array Value) (o : Nat) (cs : List Value) : Array Value := (cur.toList.take o ++ cs ++ cur.toList.drop (o + cs.length)).toArray

theorem over_size (cur : Array Value) (o : Nat) (cs : List Value) (h : o + cs.length ≤ cur.size) : (over cur o cs).size = cur.size := by
  simp only [over, List.size_toArray, List.length_append, List.length_take, List.length_drop, Array.length_toList]
  omega
theorem over_get (cur : Array Value) (o : Nat) (cs : List Value) (h : o + cs.length ≤ cur.size) (j : Nat) : (over cur o cs)[j]? = if o ≤ j ∧ j < o + cs.length then cs[j - o]? else cur[j]? := by
  simp only [over, List.getElem?_toArray]
  by_cases h1 : j < o
  · rw [List.append_assoc, List.getElem?_append_left (by simp; omega), List.getElem?_take, if_pos h1, if_neg (by omega)]
    simp
  · by_cases h2 : j < o + cs.length
    · rw [List.append_assoc, List.getElem?_append_right (by simp; omega), List.getElem?_append_left (by simp; omega), if_pos (by omega)]
      congr 1
      simp; omega
    · rw [List.getElem?_append_right (by simp; omega), List.getElem?_drop, if_neg (by omega)]
      simp only [List.length_append, List.length_take, Array.length_toList, Array.getElem?_toList]
      congr 1
      omega

/-- 'copy(d, s)' into a block: all is read before anything is written. -/
theorem run_copy_row (w : World) (dT sT ty elem : TypeId) (i : TypeInfo) (g o dLen dCap : Nat) (a : Addr) (sLen sCap : Nat) (cs : List Value) (cur : Array Value) (t : TypeId)
    (hu : P.underlying dT = some (.slice elem)) (hi : P.info? elem = some i) (m : Nat) (hm : m = Nat.min sLen dLen) (hn : cs.length = m * i.size)
    (hsrc : ∀ j v, cs[j]? = some v → w.cell? (a.add j) = some v) (hg : w.heap[g]? = some (.cells cur t (0, 0))) (hfit : o + cs.length ≤ cur.size) (h1 : ∀ v ∈ cs, v.oneCell' = true) :
    (Builtin.copy_ #[dT, sT] ty #[.slice (some ⟨g, o, none⟩) dLen dCap, .slice (some a) sLen sCap]).run P w = .ok (goInt m) (w.setRow g (over cur o cs)) := by
  subst hm
  have hl := run_firstCells_some (P := P) w i.size (Nat.min sLen dLen) a sLen sCap cs hn hsrc
  have hst := run_storeCells_at P g o t cs 0 cur w hg (by simpa using hfit) h1
  simp only [Nat.add_zero] at hst
  have hlen : (Builtin.lenOf (.slice (some a) sLen sCap)).run P w = .ok sLen w := rfl
  simp [Builtin.copy_, run_underlying hu, sizeOf, typeInfo, hi, hlen, hl, hst, over]

theorem grown_setRow (w : World) (g : Nat) (X : Array Value) : w.grownBy (w.setRow g X) (some g) :=
  ⟨rfl, rfl, rfl, by simp, fun k _ hk => setRow_other w g k _ (fun e => hk (by rw [e]))⟩
theorem Grown.trans {a b c : World} {row : Option Nat} (h : a.grownBy b row) (k : b.grownBy c row) : a.grownBy c row :=
  ⟨k.os.trans h.os, k.tape.trans h.tape, k.output.trans h.output, Nat.le_trans h.size k.size, fun i hi hn => (k.block i (Nat.lt_of_lt_of_le hi h.size) hn).trans (h.block i hi hn)⟩
theorem Grown.drew {a b : World} {row : Option Nat} (h : a.grownBy b row) : a.grownBy b.drew row := ⟨h.os, h.tape, h.output, h.size, h.block⟩
/-- .. a row that the call made may be written. -/
theorem Grown.fresh {a b : World} {row : Option Nat} (h : a.grownBy b row) {g : Nat} (hg : a.heap.size ≤ g) (X : Array Value) : a.grownBy (b.setRow g X) row :=
  ⟨h.os, h.tape, h.output, by simpa using h.size, fun i hi hn => (setRow_other b g i _ (by omega)).trans (h.block i hi hn)⟩
theorem Grown.alloc {a b : World} {row : Option Nat} (h : a.grownBy b row) (o : Obj) : a.grownBy (b.alloc o) row :=
  Grown.trans h (World.grownBy_alloc b o row)

/-- r put into xs at o. -/
def put (xs : List Value) (o : Nat) (r : List Value) : List Value := xs.take o ++ r ++ xs.drop o
theorem put_len (xs : List Value) (o : Nat) (r : List Value) (h : o ≤ xs.length) : (put xs o r).length = xs.length + r.length := by
  simp [put]; omega
theorem put_get (xs : List Value) (o : Nat) (r : List Value) (h : o ≤ xs.length) (j : Nat) : (put xs o r)[j]? = if j < o then xs[j]? else if j < o + r.length then r[j - o]? else xs[j - r.length]? := by
  unfold put
  by_cases h1 : j < o
  · rw [if_pos h1, List.append_assoc, List.getElem?_append_left (by simp; omega), List.getElem?_take, if_pos h1]
  · rw [if_neg h1]
    by_cases h2 : j < o + r.length
    · rw [if_pos h2, List.append_assoc, List.getElem?_append_right (by simp; omega), List.getElem?_append_left (by simp; omega)]
      congr 1
      simp; omega
    · rw [if_neg h2, List.getElem?_append_right (by simp; omega), List.getElem?_drop]
      congr 1
      simp; omega

/-- In place: what stood from o on moved up by r's length, then r at o. -/
theorem shift_take (cur : Array Value) (xs r : List Value) (o : Nat) (ho : o ≤ xs.length) (hx : cur.toList.take xs.length = xs) (hs : xs.length + r.length ≤ cur.size) :
    (over (over cur (o + r.length) (xs.drop o)) o r).toList.take (xs.length + r.length) = put xs o r := by
  have hx' : ∀ j, j < xs.length → cur[j]? = xs[j]? := fun j hj => by
    rw [← hx, List.getElem?_take, if_pos (by simpa using hj)]
    simp
  apply List.ext_getElem?
  intro j
  have hd : (xs.drop o).length = xs.length - o := by simp
  have hz := over_size cur (o + r.length) (xs.drop o) (by omega)
  rw [List.getElem?_take, put_get _ _ _ ho, Array.getElem?_toList, over_get _ _ _ (by omega), over_get _ _ _ (by omega)]
  by_cases h1 : j < xs.length + r.length
  · rw [if_pos h1]
    by_cases h2 : j < o
    · rw [if_neg (by omega), if_neg (by omega), if_pos h2, hx' j (by omega)]
    · rw [if_neg h2]
      by_cases h3 : j < o + r.length
      · rw [if_pos (by omega), if_pos h3]
      · rw [if_neg (by omega), if_pos (by omega), if_neg h3, List.getElem?_drop]
        congr 1
        omega
  · rw [if_neg h1, if_neg (by omega), if_neg (by omega)]
    rw [List.getElem?_eq_none (by omega)]

/-- A new row: what stood ahead of o, room, then r at o, then the rest. -/
theorem grow_take (xs r z : List Value) (o : Nat) (ho : o ≤ xs.length) (hz : xs.length - o + r.length ≤ z.length) :
    (over (over (xs.take o ++ z).toArray o r) (o + r.length) (xs.drop o)).toList.take (xs.length + r.length) = put xs o r := by
  apply List.ext_getElem?
  intro j
  have hd : (xs.drop o).length = xs.length - o := by simp
  have ht : (xs.take o).length = o := by simp; omega
  have hs : ((xs.take o ++ z).toArray).size = o + z.length := by simp; omega
  have hz1 := over_size (xs.take o ++ z).toArray o r (by omega)
  rw [List.getElem?_take, put_get _ _ _ ho, Array.getElem?_toList, over_get _ _ _ (by omega), over_get _ _ _ (by omega)]
  by_cases h1 : j < xs.length + r.length
  · rw [if_pos h1]
    by_cases h2 : j < o
    · rw [if_neg (by omega), if_neg (by omega), if_pos h2, List.getElem?_toArray, List.getElem?_append_left (by omega), List.getElem?_take, if_pos h2]
    · rw [if_neg h2]
      by_cases h3 : j < o + r.length
      · rw [if_neg (by omega), if_pos (by omega), if_pos h3]
      · rw [if_pos (by omega), if_neg h3, List.getElem?_drop]
        congr 1
        omega
  · rw [if_neg h1, if_neg (by omega), if_neg (by omega)]
    rw [List.getElem?_eq_none (by omega)]
end Go.Proofs.Ytcbafomhifdgpaa.Si
end

section
/- slices.Insert at []api.Session, one session put in: the three roads. -/
namespace Go.Proofs.Ytcbafomhifdgpaa.Si
open Go.RowKit Mem
set_option linter.unusedSimpArgs false
set_option linter.unusedVariables false
set_option maxRecDepth 100000

theorem info_sess : (Try.prog.info? 107).map (fun i => (i.zero, i.size, i.bytes)) = some (some (.agg #[.int .i64 0, .int .i64 0]), 2, 16) := by kernel_rfl

/-- What Insert leaves: a row that it may have made, else v's own; nothing else is touched. -/
def InsP (base : Nat) (v : Value) (n i : Nat) (xs r : List Value) (w : World) (E : Ending) (w' : World) : Prop :=
  ∃ v', E = .returned v' ∧ w'.ownsRow base 107 2 v' (n + 1) (put xs (i * 2) r) ∧ w.grownBy w' v.ownBlock ∧ ∀ k, v'.ownBlock = some k → v.ownBlock = some k ∨ w.heap.size ≤ k

set_option maxHeartbeats 4000000 in
theorem ins_room (base g cap n i vb : Nat) (cur : Array Value) (xs : List Value) (x y : Value) (w : World) (hb : base ≤ g) (hg : Blk w g cur 107) (hv : Blk w vb #[x, y] 107) (hne : vb ≠ g)
    (hi : i < n) (hroom : n + 1 ≤ cap) (hcap : cap ≤ maxLen) (hn : n ≤ 1000) (hcs : cur.size = cap * 2) (hxl : xs.length = n * 2) (hx : cur.toList.take (n * 2) = xs) (h1 : ∀ u ∈ xs, u.oneCell' = true) (hx1 : x.oneCell' = true) (hy1 : y.oneCell' = true) :
    Calls Try.prog 55 #[.slice (some ⟨g, 0, none⟩) n cap, .int .i64 i, .slice (some ⟨vb, 0, none⟩) 1 1] w
      (InsP base (.slice (some ⟨g, 0, none⟩) n cap) n i xs [x, y] w) := by
  obtain ⟨i0, hi0, hz0, hz1, hz2⟩ := info_parts info_sess
  have hsz : ∀ w, (Go.sizeOf 107).run Try.prog w = .ok 2 w := fun w => by simp [sizeOf, typeInfo, hi0, hz1]
  have hg' : w.heap[g]? = some (.cells cur 107 (0, 0)) := hg
  have hv' : w.heap[vb]? = some (.cells #[x, y] 107 (0, 0)) := hv
  have hov : ∀ lb cb, (callFunc 73 #[.slice (some ⟨vb, 0, none⟩) 1 1, .slice (some ⟨g, (i + 1) * 2, none⟩) lb cb]).run Try.prog w = .ok (.value (.bool false)) w := fun lb cb => by
    rw [run_callFunc_extern Try.func73 (by kernel_rfl) (by kernel_rfl) (by kernel_rfl) (e := Extern.SlicesOverlaps.overlaps #[57, 57] #[4]) (by kernel_rfl),
      Lib.run_overlaps_apart w 57 4 107 Try.underlying57 2 hsz ⟨vb, 0, none⟩ ⟨g, (i + 1) * 2, none⟩ 1 1 lb cb hne 107 107 2 cur.size (by simp [World.shape?, hv']) (by simp [World.shape?, hg']) (by omega) (by simp [World.frozen?, hv']) (by simp [World.frozen?, hv'])]
    rfl
  have hdl : (xs.drop (i * 2)).length = (n - i) * 2 := by rw [List.length_drop, hxl]; omega
  have hcell : ∀ j u, xs[j]? = some u → w.cell? ⟨g, j, none⟩ = some u := fun j u hj => by
    rw [hg.cell, ← hj, ← hx, List.getElem?_take]
    split
    · simp
    · rename_i hlt
      rw [List.getElem?_eq_none (by omega)] at hj
      cases hj
  have hcp1 : ∀ ty dc sc, (Builtin.copy_ #[57, 57] ty #[.slice (some ⟨g, (i + 1) * 2, none⟩) (n - i) dc, .slice (some ⟨g, i * 2, none⟩) (n + 1 - i) sc]).run Try.prog w.drew = .ok (goInt ((n - i : Nat) : Int)) (w.drew.setRow g (over cur ((i + 1) * 2) (xs.drop (i * 2)))) := fun ty dc sc =>
    run_copy_row w.drew _ _ ty 107 i0 g ((i + 1) * 2) (n - i) dc ⟨g, i * 2, none⟩ (n + 1 - i) sc (xs.drop (i * 2)) cur 107 Try.underlying57 hi0 (n - i) (by simp only [Nat.min_def]; split <;> omega) (by rw [hdl, hz1])
      (fun j u hj => by rw [Addr.add_lit]; exact hcell (i * 2 + j) u (by rwa [List.getElem?_drop] at hj)) hg' (by rw [hdl]; omega) (fun u hu => h1 u (List.mem_of_mem_drop hu))
  obtain ⟨W1, hW1⟩ : ∃ W1, W1 = w.drew.setRow g (over cur ((i + 1) * 2) (xs.drop (i * 2))) := ⟨_, rfl⟩
  have hW1g : W1.heap[g]? = some (.cells (over cur ((i + 1) * 2) (xs.drop (i * 2))) 107 (0, 0)) := by rw [hW1]; exact setRow_heap w.drew g cur _ _ _ hg'
  have hW1v : W1.heap[vb]? = some (.cells #[x, y] 107 (0, 0)) := by rw [hW1, setRow_other w.drew g vb _ hne]; exact hv'
  have hcp2 : ∀ (W : World), W.heap = W1.heap → ∀ ty dc, (Builtin.copy_ #[57, 57] ty #[.slice (some ⟨g, i * 2, none⟩) (n + 1 - i) dc, .slice (some ⟨vb, 0, none⟩) 1 1]).run Try.prog W = .ok (goInt 1) (W.setRow g (over (over cur ((i + 1) * 2) (xs.drop (i * 2))) (i * 2) [x, y])) := fun W hW ty dc =>
    run_copy_row W _ _ ty 107 i0 g (i * 2) (n + 1 - i) dc ⟨vb, 0, none⟩ 1 1 [x, y] _ 107 Try.underlying57 hi0 1 (by simp only [Nat.min_def]; split <;> omega) (by simp [hz1])
      (fun j u hj => by
        rw [Addr.add_lit]
        simp only [World.cell?, hW, hW1v]
        match j, hj with
        | 0, hj => simpa using hj
        | 1, hj => simpa using hj
        | j + 2, hj => simp at hj)
      (by rw [hW]; exact hW1g) (by rw [over_size _ _ _ (by rw [hdl]; omega)]; simp; omega) (fun u hu => by simp at hu; rcases hu with rfl | rfl; exact hx1; exact hy1)
  have hfin : ∀ W : World, W.heap = W1.heap → W.os = w.os → W.tape = w.tape → W.output = w.output → InsP base (.slice (some ⟨g, 0, none⟩) n cap) n i xs [x, y] w (.returned (.slice (some ⟨g, 0, none⟩) (n + 1) cap)) (W.setRow g (over (over cur ((i + 1) * 2) (xs.drop (i * 2))) (i * 2) [x, y])) := fun W hW ho ht hp => by
    have hWg : W.heap[g]? = some (.cells (over cur ((i + 1) * 2) (xs.drop (i * 2))) 107 (0, 0)) := by rw [hW]; exact hW1g
    have hs1 : (over cur ((i + 1) * 2) (xs.drop (i * 2))).size = cap * 2 := by rw [over_size _ _ _ (by rw [hdl]; omega), hcs]
    refine ⟨_, rfl, ⟨by rw [put_len _ _ _ (by omega), hxl]; simp; omega, .inr ⟨g, cap, _, rfl, hb, setRow_heap W g _ _ _ _ hWg, hroom, hcap, ?_, ?_⟩⟩, ?_, fun k hk => .inl hk⟩
    · rw [over_size _ _ _ (by rw [hs1]; simp; omega), hs1]
    · have h := shift_take cur xs [x, y] (i * 2) (by omega) (by rw [hxl]; exact hx) (by simp; omega)
      rw [show i * 2 + [x, y].length = (i + 1) * 2 by simp; omega, show xs.length + [x, y].length = (n + 1) * 2 by simp; omega] at h
      exact h
    · have hA : w.grownBy W (some g) := ⟨ho, ht, hp, by rw [hW, hW1]; simp, fun k hk hn => by rw [hW, hW1, setRow_other _ _ _ _ (fun e => hn (by rw [e]))]; rfl⟩
      exact Grown.trans hA (grown_setRow W g _)
  rw [← hW1] at hcp1
  have hsp1 : W1.os = w.os ∧ W1.tape = w.tape ∧ W1.output = w.output := by rw [hW1]; exact ⟨rfl, rfl, rfl⟩
  have hq1 : ¬ ((i : Int) = (n : Int)) := by omega
  have hq2 : ¬ ((cap : Int) < (n : Int) + 1) := by omega
  have hw1 : IntKind.i64.wrap ((i : Int) + 1) = (i : Int) + 1 := by rw [IntKind.wrap_i64]; omega
  have hw2 : IntKind.i64.wrap ((n : Int) + 1) = (n : Int) + 1 := by rw [IntKind.wrap_i64]; omega
  have hin : i ≤ n := by omega
  have hc63 : cap ≤ 9223372036854775807 := by unfold maxLen at hcap; omega
  have HF := Lib.hid hfin
  have HO := Lib.hid hov
  have H1 := Lib.hid hcp1
  have H2 := Lib.hid hcp2
  have HS := Lib.hid hsp1
  clear hfin hcp1 hcp2 hcell hW1g hW1v hdl hW1 hx hcs hxl hg hv hg' hv' h1 hsp1 hov
  go_enter Try.func55, Try.ntmps55
  go_wp2_with (simp only [HO.out])
  have h1' := H1.out
  have h2' := H2.out
  have mixed : Try.prog.follows .mixedOrders = true := by kernel_rfl
  have hb1 : (0 : Int) ≤ (i : Int) + 1 := by omega
  have htn : ((i : Int) + 1).toNat = i + 1 := by omega
  have hb2 : ¬ (cap = i + 1) := by omega
  have hb3 : (i : Int) ≤ (n : Int) + 1 := by omega
  have hb4 : ¬ (cap = i) := by omega
  go_region_law_o (refine step_copy_runI rfl _ _ 57 57 rfl _ _ (by simp [Act.eval, Act.put]) (by simp [Act.eval, Act.put]) (h1' _ _ _) ?_)
  go_wp2_with (at_builtin; refine wpList_copy_runI _ rfl _ _ 57 57 rfl _ _ rfl rfl (h2' _ rfl _ _) ?_)
  go_ret
  exact HF.out _ rfl HS.out.1 HS.out.2.1 HS.out.2.2
end Go.Proofs.Ytcbafomhifdgpaa.Si
end

section
/- slices.Insert at []api.Session: at the end; where there is no room; all roads as one contract. -/
namespace Go.Proofs.Ytcbafomhifdgpaa.Si
open Go.RowKit Mem
set_option linter.unusedSimpArgs false
set_option linter.unusedVariables false
set_option maxRecDepth 100000

theorem put_end (xs r : List Value) (o : Nat) (h : xs.length = o) : put xs o r = xs ++ r := by
  subst h
  simp [put]

theorem two_cells {w : World} {vb : Nat} {x y : Value} {t : TypeId} (h : Blk w vb #[x, y] t) : ∀ j u, ([x, y] : List Value)[j]? = some u → w.cell? ((⟨vb, 0, none⟩ : Addr).add j) = some u := by
  intro j u hj
  rw [Addr.add_lit, Nat.zero_add, h.cell]
  match j, hj with
  | 0, hj => simpa using hj
  | 1, hj => simpa using hj
  | j + 2, hj => simp at hj

/-- Where append's row lies: in place, or in a new block. -/
theorem app_where {w : World} {base : Nat} {t ty e : TypeId} {i : TypeInfo} {z : Value} {size bytes : Nat} (ht : Try.prog.underlying t = some (.slice e)) (hi : Try.prog.info? e = some i) (hz : i.zero = some z)
    (hsize : i.size = size) (hby : i.bytes = bytes) (hsz : 0 < size)
    {v : Value} {n : Nat} {xs : List Value} (hown : w.ownsRow base e size v n xs)
    {a : Addr} {m c : Nat} {news : List Value} (hl : news.length = m * size) (hnews : ∀ j u, news[j]? = some u → w.cell? (a.add j) = some u) (h1 : ∀ u ∈ news, u.oneCell' = true) (hm : m ≠ 0)
    (h63 : n + m ≤ maxLen) (hbytes : (n + m) * bytes ≤ 140737488355328) {v' : Value} {w' : World} (hr : (Builtin.append_ #[t, t] ty #[v, .slice (some a) m c]).run Try.prog w = .ok v' w') :
    ∀ k, v'.ownBlock = some k → v.ownBlock = some k ∨ w.heap.size ≤ k := by
  subst hsize
  subst hby
  have hsmall : n + m ≤ 9223372036854775807 := by simp only [maxLen] at h63; omega
  intro k hk
  rcases hown.2 with ⟨rfl, rfl⟩ | ⟨g, cap, cur, rfl, hbg, hg, hnc, hcm, hcs, htake⟩
  · have h := run_append_nil (P := Try.prog) w t ty e i z ht hi hz a m c news hl hnews (by omega) (by omega) (by have hb := hbytes; simp only [Nat.zero_add] at hb; omega)
    rw [h] at hr
    injection hr with h1 h2
    subst h1
    simp only [Value.ownBlock, Option.some.injEq] at hk
    exact .inr (by omega)
  · by_cases hroom : n + m ≤ cap
    · have hfit : n * i.size + news.length ≤ cur.size := by rw [hl, hcs, ← Nat.add_mul]; exact Nat.mul_le_mul_right _ hroom
      have h := run_append_room (P := Try.prog) w t ty e i ht hi g n cap cur hg a m c news hl hnews h1 hroom hfit
      rw [h] at hr
      injection hr with h1 h2
      subst h1
      exact .inl hk
    · have holds : ∀ j u, xs[j]? = some u → w.cell? ((⟨g, 0, none⟩ : Addr).add j) = some u := hown.cells (g := g) rfl
      have h := run_append_grow (P := Try.prog) w t ty e i z ht hi hz ⟨g, 0, none⟩ n cap xs hown.1 holds a m c news hl hnews (by omega) (by omega) (growslice_fits (by omega) hbytes)
      rw [h] at hr
      injection hr with h1 h2
      subst h1
      simp only [Value.ownBlock, Option.some.injEq] at hk
      exact .inr (by omega)

set_option maxHeartbeats 4000000 in
theorem ins_end (base vb n : Nat) (v : Value) (xs : List Value) (x y : Value) (w : World) (hown : w.ownsRow base 107 2 v n xs) (hbase : base ≤ w.heap.size) (hv : Blk w vb #[x, y] 107)
    (hn : n ≤ 1000) (hx1 : x.oneCell' = true) (hy1 : y.oneCell' = true) :
    Calls Try.prog 55 #[v, .int .i64 n, .slice (some ⟨vb, 0, none⟩) 1 1] w (InsP base v n n xs [x, y] w) := by
  obtain ⟨i0, hi0, hz0, hz1, hz2⟩ := info_parts info_sess
  have hxl := hown.1
  have hput := put_end xs [x, y] (n * 2) hxl
  have h2c := two_cells hv
  obtain ⟨a, c, hav⟩ := Rw.own_slice hown
  have hle : n ≤ c ∧ (a = none → n = 0 ∧ c = 0) ∧ (∀ b, a = some b → b.spot = none) := by
    rcases Rw.own_cellN hown with ⟨h, h', _⟩ | ⟨g, cap, h, h1, h2, h3, _⟩
    · rw [hav] at h; cases h; exact ⟨by omega, ⟨(fun _ => ⟨h', rfl⟩), (fun _ h => by cases h)⟩⟩
    · rw [hav] at h; cases h; exact ⟨h2, ⟨(fun h => by cases h), (fun b h => by cases h; rfl)⟩⟩
  subst hav
  unfold InsP
  rw [hput]
  have hc63 : c ≤ 9223372036854775807 := by
    rcases Rw.own_cellN hown with ⟨h, h', _⟩ | ⟨g, cap, h, h1, h2, h3, _⟩
    · cases h; omega
    · cases h; unfold maxLen at h3; omega
  obtain ⟨v', w1, hr, hown', hgrow, _⟩ := run_append_own (P := Try.prog) w base 57 57 107 i0 _ 2 16 Try.underlying57 hi0 hz0 hz1 hz2 rfl (by decide) _ _ _ hown ⟨vb, 0, none⟩ 1 1 [x, y] rfl h2c (by simp [hx1, hy1]) (by unfold maxLen; omega) (by omega) hbase
  have HW := Lib.hid (app_where (ty := 57) Try.underlying57 hi0 hz0 hz1 hz2 (by decide) hown (a := ⟨vb, 0, none⟩) (m := 1) (c := 1) (news := [x, y]) rfl h2c (by simp [hx1, hy1]) (by decide) (by unfold maxLen; omega) (by omega) hr)
  have HR := Lib.hid hr
  have HO1 := Lib.hid hown'
  have HG1 := Lib.hid hgrow
  clear hown hput h2c hv hr hown' hgrow
  cases a with
  | none =>
    obtain ⟨h0, h0'⟩ := hle.2.1 rfl
    subst h0
    subst h0'
    go_enter Try.func55, Try.ntmps55
    go_wp2_with (at_builtin; refine Lib.wpList_append_run _ rfl _ _ _ _ rfl _ _ rfl rfl _ _ HR.out ?_)
    go_ret
    exact ⟨v', rfl, HO1.out, HG1.out, HW.out⟩
  | some p =>
    obtain ⟨pb, po, ps⟩ := p
    have := hle.2.2 _ rfl
    simp only at this
    subst this
    have hle' : n ≤ c := hle.1
    clear hle
    go_enter Try.func55, Try.ntmps55
    go_wp2_with (at_builtin; refine Lib.wpList_append_run _ rfl _ _ _ _ rfl _ _ rfl rfl _ _ HR.out ?_)
    all_goals (go_ret; exact ⟨_, rfl, HO1.out, HG1.out, HW.out⟩)
end Go.Proofs.Ytcbafomhifdgpaa.Si
end

section
/- slices.Insert at []api.Session: where there is no room; all roads as one contract. -/
namespace Go.Proofs.Ytcbafomhifdgpaa.Si
open Go.RowKit Mem
set_option linter.unusedSimpArgs false
set_option linter.unusedVariables false
set_option maxRecDepth 100000

set_option maxHeartbeats 4000000 in
theorem ins_grow (base g cap n i vb : Nat) (cur : Array Value) (xs : List Value) (x y : Value) (w : World) (hb : base ≤ g) (hbase : base ≤ w.heap.size) (hg : Blk w g cur 107) (hv : Blk w vb #[x, y] 107)
    (hi : i < n) (hnc : n ≤ cap) (hroom : ¬ (n + 1 ≤ cap)) (hn : n ≤ 1000) (hcs : cur.size = cap * 2) (hxl : xs.length = n * 2) (hx : cur.toList.take (n * 2) = xs) (h1 : ∀ u ∈ xs, u.oneCell' = true) (hx1 : x.oneCell' = true) (hy1 : y.oneCell' = true) :
    Calls Try.prog 55 #[.slice (some ⟨g, 0, none⟩) n cap, .int .i64 i, .slice (some ⟨vb, 0, none⟩) 1 1] w
      (InsP base (.slice (some ⟨g, 0, none⟩) n cap) n i xs [x, y] w) := by
  obtain ⟨i0, hi0, hz0, hz1, hz2⟩ := info_parts info_sess
  have hg' : w.heap[g]? = some (.cells cur 107 (0, 0)) := hg
  have hv' : w.heap[vb]? = some (.cells #[x, y] 107 (0, 0)) := hv
  have hgl := hg.lt
  have hvl := hv.lt
  have hdl : (xs.drop (i * 2)).length = (n - i) * 2 := by rw [List.length_drop, hxl]; omega
  have htl : (xs.take (i * 2)).length = i * 2 := by rw [List.length_take, hxl]; omega
  have hcell : ∀ j u, xs[j]? = some u → w.cell? ⟨g, j, none⟩ = some u := fun j u hj => by
    rw [hg.cell, ← hj, ← hx, List.getElem?_take]
    split
    · simp
    · rename_i hlt
      rw [List.getElem?_eq_none (by omega)] at hj
      cases hj
  have hold : (Builtin.firstCells i0.size i (.slice (some ⟨g, 0, none⟩) i cap)).run Try.prog w.drew = .ok (xs.take (i * 2)).toArray w.drew :=
    run_firstCells_some w.drew i0.size i ⟨g, 0, none⟩ i cap (xs.take (i * 2)) (by rw [htl, hz1]) (fun j u hj => by
      rw [Addr.add_lit, Nat.zero_add]
      rw [List.getElem?_take] at hj
      split at hj
      · exact hcell j u hj
      · cases hj)
  have hkk : (n : Int) + 1 - (i : Int) = ((n + 1 - i : Nat) : Int) := by omega
  have hik : i + (n + 1 - i) = n + 1 := by omega
  obtain ⟨Z, hZ⟩ : ∃ Z : List Value, Z = (Builtin.zeroCells (Value.agg #[.int .i64 0, .int .i64 0]).cells (n + 1 - i) ++ Builtin.zeroCells (Value.agg #[.int .i64 0, .int .i64 0]).cells (grownCap w (n + 1) cap 107 - (n + 1))).toList := ⟨_, rfl⟩
  have hGn : n + 1 ≤ grownCap w (n + 1) cap 107 := grownCap_ge w _ _ _
  have hG63 := grownCap_le_maxLen w (n + 1) cap 107 (by unfold maxLen; omega)
  have hzl : Z.length = (n + 1 - i) * 2 + (grownCap w (n + 1) cap 107 - (n + 1)) * 2 := by
    rw [hZ, Array.length_toList, Array.size_append, size_zeroCells, size_zeroCells]
    rfl
  have hrz : ∀ ty, (Builtin.append_ #[57, 3] ty #[.slice (some ⟨g, 0, none⟩) i cap, .int .i64 ((n : Int) + 1 - (i : Int))]).run Try.prog w =
      .ok (.slice (some ⟨w.heap.size, 0, none⟩) (n + 1) (grownCap w (n + 1) cap 107)) (w.drew.alloc (.cells (xs.take (i * 2) ++ Z).toArray 107)) := fun ty => by
    have h := Lib.run_append_grow_zeros w 57 3 ty 107 i0 _ .i64 .i64 Try.underlying57 Try.underlying3 hi0 hz0 (some ⟨g, 0, none⟩) i cap (xs.take (i * 2)) hold (n + 1 - i) (by omega) (by omega) (by omega) (by omega) (by rw [hz2]; omega) (by rw [hz2, hik]; exact growslice_fits (by omega) (by omega))
    rw [hik] at h
    have hA : (xs.take (i * 2)).toArray ++ Builtin.zeroCells (Value.agg #[.int .i64 0, .int .i64 0]).cells (n + 1 - i) ++ Builtin.zeroCells (Value.agg #[.int .i64 0, .int .i64 0]).cells (grownCap w (n + 1) cap 107 - (n + 1)) = (xs.take (i * 2) ++ Z).toArray := by
      rw [hZ]
      apply Array.ext'
      simp
    rw [hkk, h, hA]
  obtain ⟨G, hG⟩ : ∃ G, G = grownCap w (n + 1) cap 107 := ⟨_, rfl⟩
  rw [← hG] at hrz hGn hG63 hzl
  have hG0 : G ≤ 9223372036854775807 := by unfold maxLen at hG63; omega
  clear hZ hG
  obtain ⟨ROW, hROW⟩ : ∃ ROW : Array Value, ROW = (xs.take (i * 2) ++ Z).toArray := ⟨_, rfl⟩
  have hRs : ROW.size = G * 2 := by rw [hROW, List.size_toArray, List.length_append, htl, hzl]; omega
  have hfin0 := grow_take xs [x, y] Z (i * 2) (by omega) (by rw [hxl, hzl]; simp; omega)
  rw [← hROW, show i * 2 + [x, y].length = (i + 1) * 2 by simp; omega, show xs.length + [x, y].length = (n + 1) * 2 by simp; omega] at hfin0
  rw [← hROW] at hrz
  clear hROW
  obtain ⟨N, hN⟩ : ∃ N, N = w.heap.size := ⟨_, rfl⟩
  obtain ⟨W1, hW1⟩ : ∃ W1, W1 = w.drew.alloc (.cells ROW 107) := ⟨_, rfl⟩
  have hW1N : W1.heap[N]? = some (.cells ROW 107 (0, 0)) := by rw [hW1, hN]; exact heap_alloc_new w.drew _
  have hW1o : ∀ k, k < w.heap.size → W1.heap[k]? = w.heap[k]? := fun k hk => by rw [hW1]; exact Below.heap_alloc w.drew _ k hk
  have hW1s : W1.heap.size = w.heap.size + 1 := by rw [hW1]; simp
  have hs1 : (over ROW (i * 2) [x, y]).size = G * 2 := by rw [over_size _ _ _ (by simp; omega), hRs]
  have hcpA : ∀ (W : World), W.heap = W1.heap → ∀ ty dc, (Builtin.copy_ #[57, 57] ty #[.slice (some ⟨N, i * 2, none⟩) (n + 1 - i) dc, .slice (some ⟨vb, 0, none⟩) 1 1]).run Try.prog W = .ok (goInt 1) (W.setRow N (over ROW (i * 2) [x, y])) := fun W hW ty dc =>
    run_copy_row W _ _ ty 107 i0 N (i * 2) (n + 1 - i) dc ⟨vb, 0, none⟩ 1 1 [x, y] ROW 107 Try.underlying57 hi0 1 (by simp only [Nat.min_def]; split <;> omega) (by simp [hz1])
      (two_cells (show Blk W vb #[x, y] 107 by unfold Blk; rw [hW, hW1o _ hvl]; exact hv')) (by rw [hW]; exact hW1N) (by rw [hRs]; simp; omega) (fun u hu => by simp at hu; rcases hu with rfl | rfl; exact hx1; exact hy1)
  have hgN : g ≠ N := by omega
  have hcpB : ∀ (W : World), W.heap = (W1.setRow N (over ROW (i * 2) [x, y])).heap → ∀ ty dc sc, (Builtin.copy_ #[57, 57] ty #[.slice (some ⟨N, (i + 1) * 2, none⟩) (n - i) dc, .slice (some ⟨g, i * 2, none⟩) (n - i) sc]).run Try.prog W = .ok (goInt ((n - i : Nat) : Int)) (W.setRow N (over (over ROW (i * 2) [x, y]) ((i + 1) * 2) (xs.drop (i * 2)))) := fun W hW ty dc sc =>
    run_copy_row W _ _ ty 107 i0 N ((i + 1) * 2) (n - i) dc ⟨g, i * 2, none⟩ (n - i) sc (xs.drop (i * 2)) (over ROW (i * 2) [x, y]) 107 Try.underlying57 hi0 (n - i) (by simp only [Nat.min_def]; split <;> omega) (by rw [hdl, hz1])
      (fun j u hj => by
        rw [Addr.add_lit]
        have hc := hcell (i * 2 + j) u (by rwa [List.getElem?_drop] at hj)
        rw [← hc]
        exact World.cell?_of_block (a := ⟨g, i * 2 + j, none⟩) (by show W.heap[g]? = w.heap[g]?; rw [hW, setRow_other _ _ _ _ hgN, hW1o _ hgl]))
      (by rw [hW]; exact setRow_heap W1 N _ _ _ _ hW1N) (by rw [hdl, hs1]; omega) (fun u hu => h1 u (List.mem_of_mem_drop hu))
  have hfin : ∀ W : World, W.heap = (W1.setRow N (over ROW (i * 2) [x, y])).heap → W.os = w.os → W.tape = w.tape → W.output = w.output → InsP base (.slice (some ⟨g, 0, none⟩) n cap) n i xs [x, y] w (.returned (.slice (some ⟨N, 0, none⟩) (n + 1) G)) (W.setRow N (over (over ROW (i * 2) [x, y]) ((i + 1) * 2) (xs.drop (i * 2)))) := fun W hW ho ht hp => by
    have hWg : W.heap[N]? = some (.cells (over ROW (i * 2) [x, y]) 107 (0, 0)) := by rw [hW]; exact setRow_heap W1 N _ _ _ _ hW1N
    refine ⟨_, rfl, ⟨by rw [put_len _ _ _ (by omega), hxl]; simp; omega, .inr ⟨N, G, _, rfl, by omega, setRow_heap W N _ _ _ _ hWg, hGn, hG63, ?_, ?_⟩⟩, ?_, fun k hk => .inr (by simp only [Value.ownBlock, Option.some.injEq] at hk; omega)⟩
    · rw [over_size _ _ _ (by rw [hs1, hdl]; omega), hs1]
    · exact hfin0
    · have hA : w.grownBy W (Value.ownBlock (.slice (some ⟨g, 0, none⟩) n cap)) := ⟨ho, ht, hp, by rw [hW]; simp; omega, fun k hk hn => by rw [hW, setRow_other _ _ _ _ (by omega), hW1o k hk]⟩
      exact Grown.fresh hA (by omega) _
  subst hN
  rw [← hW1] at hrz
  have hsp1 : W1.os = w.os ∧ W1.tape = w.tape ∧ W1.output = w.output := by rw [hW1]; exact ⟨rfl, rfl, rfl⟩
  have hq1 : ¬ ((i : Int) = (n : Int)) := by omega
  have hq2 : (cap : Int) < (n : Int) + 1 := by omega
  have hw1 : IntKind.i64.wrap ((i : Int) + 1) = (i : Int) + 1 := by rw [IntKind.wrap_i64]; omega
  have hw2 : IntKind.i64.wrap ((n : Int) + 1) = (n : Int) + 1 := by rw [IntKind.wrap_i64]; omega
  have hw3 : IntKind.i64.wrap ((n : Int) + 1 - (i : Int)) = (n : Int) + 1 - (i : Int) := by rw [IntKind.wrap_i64]; omega
  have hin : i ≤ n := by omega
  have hic : i ≤ cap := by omega
  have hb1 : (0 : Int) ≤ (i : Int) + 1 := by omega
  have htn : ((i : Int) + 1).toNat = i + 1 := by omega
  have hb2 : ¬ (G = i + 1) := by omega
  have hb3 : (i : Int) ≤ (n : Int) + 1 := by omega
  have hb3' : (i : Int) ≤ (n : Int) := by omega
  have hb4 : ¬ (G = i) := by omega
  have hb5 : ¬ (cap = i) := by omega
  have mixed : Try.prog.follows .mixedOrders = true := by kernel_rfl
  have HF := Lib.hid hfin
  have HRZ := Lib.hid hrz
  have HA := Lib.hid hcpA
  have HB := Lib.hid hcpB
  have HS := Lib.hid hsp1
  clear hfin hcpA hcpB hcell hW1N hW1o hW1s hdl htl hW1 hx hcs hxl hg hv hg' hv' h1 hsp1 hrz hs1 hRs hfin0 hold hkk hik hzl hgl hvl
  go_enter Try.func55, Try.ntmps55
  have hA' := HA.out
  go_wp2_with (at_builtin; refine Lib.wpList_append_run _ rfl _ _ _ _ rfl _ _ rfl rfl _ _ (HRZ.out _) ?_)
  have hB' := HB.out ((W1.setRow w.heap.size (over ROW (i * 2) [x, y])).drew) rfl
  go_region_law_o (refine step_copy_runI rfl _ _ 57 57 rfl _ _ (by simp [Act.eval, Act.put]) (by simp [Act.eval, Act.put]) (hB' _ _ _) ?_)
  go_wp2
  go_ret
  exact HF.out _ rfl HS.out.1 HS.out.2.1 HS.out.2.2

/-- Insert of one session, whatever the road. -/
theorem ins_calls (base vb n i : Nat) (v : Value) (xs : List Value) (x y : Value) (w : World) (hown : w.ownsRow base 107 2 v n xs) (hbase : base ≤ w.heap.size) (hv : Blk w vb #[x, y] 107) (hne : v.ownBlock ≠ some vb)
    (hi : i ≤ n) (hn : n ≤ 1000) (h1 : ∀ u ∈ xs, u.oneCell' = true) (hx1 : x.oneCell' = true) (hy1 : y.oneCell' = true) :
    Calls Try.prog 55 #[v, .int .i64 i, .slice (some ⟨vb, 0, none⟩) 1 1] w (InsP base v n i xs [x, y] w) := by
  by_cases hin : i = n
  · subst hin
    exact ins_end base vb i v xs x y w hown hbase hv hn hx1 hy1
  · obtain ⟨h0, ⟨rfl, rfl⟩ | ⟨g, cap, cur, rfl, hg, hb, h2, h3, h4, h5⟩⟩ := hown
    · exact absurd hi (by omega)
    · have hvg : vb ≠ g := fun e => hne (by rw [e]; rfl)
      by_cases hr : n + 1 ≤ cap
      · exact ins_room base g cap n i vb cur xs x y w hg hb hv hvg (by omega) hr h3 hn h4 h0 h5 h1 hx1 hy1
      · exact ins_grow base g cap n i vb cur xs x y w hg hbase hb hv (by omega) h2 hr hn h4 h0 h5 h1 hx1 hy1
end Go.Proofs.Ytcbafomhifdgpaa.Si
end

section
/- Tables of sessions: what they are; the search. -/
namespace Go.Proofs.Ytcbafomhifdgpaa.Ss
open Go.RowKit Mem Si
set_option linter.unusedSimpArgs false
set_option linter.unusedVariables false
set_option maxRecDepth 100000

/-- A session: its ID and the number of its last event. -/
abbrev Sn := Int × Int
def rowC (s : Sn) : List Value := [.int .i64 s.1, .int .i64 s.2]
def rowsC (l : List Sn) : List Value := (l.map rowC).flatten
theorem rowC_len (s : Sn) : (rowC s).length = 2 := rfl
theorem rows_two (l : List Sn) : ∀ r ∈ l.map rowC, r.length = 2 := by
  intro r hr
  simp only [List.mem_map] at hr
  obtain ⟨s, _, rfl⟩ := hr
  rfl
theorem rowsC_len (l : List Sn) : (rowsC l).length = l.length * 2 := by
  unfold rowsC
  rw [Rw.flat_len (n := 2) _ (rows_two l), List.length_map]
theorem rowsC_get (l : List Sn) (i : Nat) (hi : i < l.length) : (rowsC l)[i * 2]? = some (.int .i64 l[i].1) ∧ (rowsC l)[i * 2 + 1]? = some (.int .i64 l[i].2) := by
  unfold rowsC
  have h := rows_two l
  have h0 := Rw.flat_get (l.map rowC) i 0 h (by simpa using hi) (by omega)
  have h1 := Rw.flat_get (l.map rowC) i 1 h (by simpa using hi) (by omega)
  simp only [List.getElem_map, Nat.add_zero] at h0 h1
  exact ⟨by rw [h0]; rfl, by rw [h1]; rfl⟩
theorem rowsC_one (l : List Sn) : ∀ u ∈ rowsC l, u.oneCell' = true := by
  intro u hu
  simp only [rowsC, List.mem_flatten, List.mem_map] at hu
  obtain ⟨r, ⟨s, _, rfl⟩, h⟩ := hu
  simp only [rowC, List.mem_cons, List.not_mem_nil, or_false] at h
  rcases h with rfl | rfl <;> rfl
theorem rowsC_append (a b : List Sn) : rowsC (a ++ b) = rowsC a ++ rowsC b := by simp [rowsC]
theorem rowsC_take (l : List Sn) (i : Nat) (hi : i ≤ l.length) : (rowsC l).take (i * 2) = rowsC (l.take i) := by
  have h := rowsC_append (l.take i) (l.drop i)
  rw [List.take_append_drop] at h
  have hl := rowsC_len (l.take i)
  rw [List.length_take, Nat.min_eq_left hi] at hl
  rw [h, ← hl, List.take_left]
theorem rowsC_drop (l : List Sn) (i : Nat) (hi : i ≤ l.length) : (rowsC l).drop (i * 2) = rowsC (l.drop i) := by
  have h := rowsC_append (l.take i) (l.drop i)
  rw [List.take_append_drop] at h
  have hl := rowsC_len (l.take i)
  rw [List.length_take, Nat.min_eq_left hi] at hl
  rw [h, ← hl, List.drop_left]
theorem rowsC_put (l : List Sn) (i : Nat) (hi : i ≤ l.length) (s : Sn) : put (rowsC l) (i * 2) (rowC s) = rowsC (l.take i ++ [s] ++ l.drop i) := by
  unfold put
  rw [rowsC_take l i hi, rowsC_drop l i hi, rowsC_append, rowsC_append]
  simp [rowsC]

/-- A row of sessions in memory. -/
def RowsAt (w : World) (base : Nat) (v : Value) (l : List Sn) : Prop := w.ownsRow base 107 2 v l.length (rowsC l)
theorem RowsAt.mod {w w' : World} {base : Nat} {v : Value} {l : List Sn} {R : List Nat} (h : RowsAt w base v l) (m : Mod w w' R) (hR : ∀ k, v.ownBlock = some k → k ∉ R) : RowsAt w' base v l := own_mod h m hR
theorem RowsAt.shape {w : World} {base : Nat} {v : Value} {l : List Sn} (h : RowsAt w base v l) :
    (v = .slice none 0 0 ∧ l = []) ∨ ∃ g cap, v = .slice (some ⟨g, 0, none⟩) l.length cap ∧ base ≤ g ∧ l.length ≤ cap ∧ cap ≤ maxLen ∧
      ∀ i (hi : i < l.length), w.cell? ⟨g, i * 2, none⟩ = some (.int .i64 l[i].1) ∧ w.cell? ⟨g, i * 2 + 1, none⟩ = some (.int .i64 l[i].2) := by
  rcases Rw.own_cellN h with ⟨h1, h2, _⟩ | ⟨g, cap, h1, h2, h3, h4, h5, h6⟩
  · exact .inl ⟨h1, List.eq_nil_of_length_eq_zero h2⟩
  · refine .inr ⟨g, cap, h1, h2, h3, h4, fun i hi => ?_⟩
    obtain ⟨e0, e1⟩ := rowsC_get l i hi
    obtain ⟨q0, q0'⟩ := List.getElem?_eq_some_iff.1 e0
    obtain ⟨q1, q1'⟩ := List.getElem?_eq_some_iff.1 e1
    exact ⟨by rw [h6 _ q0, q0'], by rw [h6 _ q1, q1']⟩

def Up (l : List Sn) : Prop := ∀ i j (hi : i < l.length) (hj : j < l.length), i < j → l[i].1 < l[j].1
/-- Where a session stands, or is to stand. -/
def pos (l : List Sn) (id : Int) : Nat := l.countP (fun s => decide (s.1 < id))
def has (l : List Sn) (id : Int) : Bool := l.any (fun s => s.1 == id)
theorem pos_le (l : List Sn) (id : Int) : pos l id ≤ l.length := List.countP_le_length
theorem countP_cut {α : Type} (p : α → Bool) : ∀ (l : List α) (i : Nat), i ≤ l.length → (∀ t (ht : t < l.length), t < i → p l[t] = true) → (∀ t (ht : t < l.length), i ≤ t → p l[t] = false) → l.countP p = i
  | [], i, hi, _, _ => by simp at hi; simp [hi]
  | a :: r, 0, _, _, h2 => by
    rw [List.countP_eq_zero]
    intro x hx
    obtain ⟨t, ht, rfl⟩ := List.getElem_of_mem hx
    rw [h2 t ht (Nat.zero_le _)]; simp
  | a :: r, i + 1, hi, h1, h2 => by
    have ha : p a = true := h1 0 (by simp) (by omega)
    rw [List.countP_cons_of_pos ha, countP_cut p r i (by simpa using hi) (fun t ht hti => h1 (t + 1) (by simpa using ht) (by omega)) (fun t ht hti => h2 (t + 1) (by simpa using ht) (by omega))]
theorem pos_cut {l : List Sn} {id : Int} {i : Nat} (hi : i ≤ l.length) (h1 : ∀ t (ht : t < l.length), t < i → l[t].1 < id) (h2 : ∀ t (ht : t < l.length), i ≤ t → id ≤ l[t].1) : pos l id = i :=
  countP_cut _ l i hi (fun t ht hti => decide_eq_true (h1 t ht hti)) (fun t ht hti => decide_eq_false (by have := h2 t ht hti; omega))
theorem has_at {l : List Sn} {id : Int} {i : Nat} (hu : Up l) (h1 : ∀ t (ht : t < l.length), t < i → l[t].1 < id) (hi : i < l.length) (h2 : id ≤ l[i].1) : has l id = decide (l[i].1 = id) := by
  unfold has
  rw [Bool.eq_iff_iff, List.any_eq_true, decide_eq_true_iff]
  constructor
  · rintro ⟨s, hs, he⟩
    obtain ⟨t, ht, rfl⟩ := List.getElem_of_mem hs
    simp only [beq_iff_eq] at he
    rcases Nat.lt_trichotomy t i with h | h | h
    · have := h1 t ht h; omega
    · subst h; exact he
    · have := hu i t hi ht h; omega
  · intro he
    exact ⟨_, List.getElem_mem hi, by simpa using he⟩
theorem has_end {l : List Sn} {id : Int} (h1 : ∀ t (ht : t < l.length), l[t].1 < id) : has l id = false := by
  unfold has
  rw [List.any_eq_false]
  intro s hs
  obtain ⟨t, ht, rfl⟩ := List.getElem_of_mem hs
  have := h1 t ht
  simp; omega

def numB (n : Int) : Bool := decide (1 ≤ n ∧ n ≤ 549755813888)
theorem number_calls (n : Int) (w : World) : Calls Try.prog 53 #[.int .i64 n] w fun e w' => e = .returned (.bool (numB n)) ∧ w = w' := by
  by_cases h1 : 1 ≤ n
  · by_cases h2 : n ≤ 549755813888
    · have h : numB n = true := decide_eq_true ⟨h1, h2⟩
      rw [h]
      clear h
      go_enter Try.func53, Try.ntmps53
      go_wp2
      go_ret
      exact ⟨rfl, rfl⟩
    · have h : numB n = false := decide_eq_false (fun h => h2 h.2)
      rw [h]
      clear h
      go_enter Try.func53, Try.ntmps53
      go_wp2
      go_ret
      exact ⟨rfl, rfl⟩
  · have h : numB n = false := decide_eq_false (fun h => h1 h.1)
    rw [h]
    clear h
    go_enter Try.func53, Try.ntmps53
    go_wp2
    go_ret
    exact ⟨rfl, rfl⟩

def cmpI (a b : Int) : Int := if a < b then -1 else if b < a then 1 else 0
theorem isNaN_calls (x : Int) (w : World) : Calls Try.prog 80 #[.int .i64 x] w fun e w' => e = .returned (.bool false) ∧ w = w' := by
  go_enter Try.func80, Try.ntmps80
  go_wp2
  go_ret
  exact ⟨by simp, rfl⟩
theorem compare_calls (a b : Int) (w : World) : Calls Try.prog 72 #[.int .i64 a, .int .i64 b] w fun e w' => e = .returned (.int .i64 (cmpI a b)) ∧ w = w' := by
  have hna := fun w => isNaN_calls a w
  have hnb := fun w => isNaN_calls b w
  by_cases h1 : a < b
  · have h : cmpI a b = -1 := by unfold cmpI; rw [if_pos h1]
    rw [h]
    clear h
    go_enter Try.func72, Try.ntmps72
    go_wp2
    go_ret
    exact ⟨rfl, rfl⟩
  · by_cases h2 : b < a
    · have h : cmpI a b = 1 := by unfold cmpI; rw [if_neg h1, if_pos h2]
      rw [h]
      clear h
      go_enter Try.func72, Try.ntmps72
      go_wp2
      go_ret
      exact ⟨rfl, rfl⟩
    · have h : cmpI a b = 0 := by unfold cmpI; rw [if_neg h1, if_neg h2]
      rw [h]
      clear h
      go_enter Try.func72, Try.ntmps72
      go_wp2
      go_ret
      exact ⟨rfl, rfl⟩
theorem cmp_calls (a b id : Int) (w : World) : Calls Try.prog 71 #[.agg #[.int .i64 a, .int .i64 b], .int .i64 id] w fun e w' => e = .returned (.int .i64 (cmpI a id)) ∧ Mod w w' [] := by
  have C := Lib.hid (fun w => compare_calls a id w)
  have HM := Lib.hid ((Mod.refl w []).alloc (.cells #[.int .i64 a, .int .i64 b] 107))
  generalize cmpI a id = c at *
  go_enter Try.func71, Try.ntmps71
  go_wp2_with fail
  (with_reducible refine (C.out _).mono ?_)
  rintro e w1 ⟨rfl, rfl⟩
  go_wp2_with fail
  go_ret
  exact ⟨rfl, HM.out⟩
end Go.Proofs.Ytcbafomhifdgpaa.Ss
end

section
/- The search for a session. -/
namespace Go.Proofs.Ytcbafomhifdgpaa.Ss
open Go.RowKit Mem Si
set_option linter.unusedSimpArgs false
set_option linter.unusedVariables false
set_option maxRecDepth 100000

set_option maxHeartbeats 4000000 in
theorem search_row (g cap : Nat) (l : List Sn) (id : Int) (w : World) (hgl : g < w.heap.size) (hn : l.length ≤ 1000) (hu : Up l)
    (hc : ∀ i (hi : i < l.length), w.cell? ⟨g, i * 2, none⟩ = some (.int .i64 l[i].1) ∧ w.cell? ⟨g, i * 2 + 1, none⟩ = some (.int .i64 l[i].2)) :
    Calls Try.prog 70 #[.slice (some ⟨g, 0, none⟩) l.length cap, .int .i64 id, .func (.func 71) #[] #[]] w
      fun e w' => e = .returned (.tuple #[.int .i64 (pos l id), .bool (has l id)]) ∧ Mod w w' [] := by
  have CM := Lib.hid (fun a b w => cmp_calls a b id w)
  have HC := Lib.hid hc
  have HU := Lib.hid hu
  obtain ⟨p, hp⟩ : ∃ p, p = pos l id := ⟨_, rfl⟩
  obtain ⟨q, hq⟩ : ∃ q, q = has l id := ⟨_, rfl⟩
  rw [← hp, ← hq]
  have HP := Lib.hid hp
  have HQ := Lib.hid hq
  clear hc hu hp hq
  go_enter Try.func70, Try.ntmps70
  go_wp2_with fail
  go_loopw [9, 10] (fun vl vh wr => ∃ lo hi : Nat, vl = .int .i64 (lo : Int) ∧ vh = .int .i64 (hi : Int) ∧ lo ≤ hi ∧ hi ≤ l.length ∧ Mod w wr [] ∧
    Hid ((∀ t (ht : t < l.length), t < lo → l[t].1 < id) ∧ (∀ t (ht : t < l.length), hi ≤ t → id ≤ l[t].1))) (fun vl vh _ => (intOf vh - intOf vl).toNat)
  case atStart => exact ⟨0, l.length, rfl, rfl, Nat.zero_le _, Nat.le_refl _, Mod.refl _ _, Lib.hid ⟨fun t ht h => absurd h (Nat.not_lt_zero _), fun t ht h => by omega⟩⟩
  case round =>
    obtain ⟨lo, hi, rfl, rfl, hlh, hin, hm, HI⟩ := hrel
    have HM := Lib.hid hm
    clear hm
    by_cases hlt : lo < hi
    · have hmid : (lo + hi) / 2 < l.length := by omega
      obtain ⟨c0, c1⟩ := HC.out ((lo + hi) / 2) hmid
      rw [← HM.out.cell (p := ⟨g, (lo + hi) / 2 * 2, none⟩) hgl (by simp)] at c0
      rw [← HM.out.cell (p := ⟨g, (lo + hi) / 2 * 2 + 1, none⟩) hgl (by simp)] at c1
      by_cases hyx : (l[(lo + hi) / 2]'hmid).1 < id
      · have HX : Hid (∀ t (ht : t < l.length), t < (lo + hi) / 2 + 1 → l[t].1 < id) := Lib.hid (fun t ht h => by
          rcases Nat.lt_or_ge t ((lo + hi) / 2) with h' | h'
          · have := HU.out t _ ht hmid h'; omega
          · have e : t = (lo + hi) / 2 := by omega
            subst e; exact hyx)
        have hcm : cmpI (l[(lo + hi) / 2]'hmid).1 id = -1 := by unfold cmpI; rw [if_pos hyx]
        have CM1 := Lib.hid (fun b w => hcm ▸ CM.out (l[(lo + hi) / 2]'hmid).1 b w)
        clear hcm
        generalize l[(lo + hi) / 2]'hmid = y at *
        go_wp2_with (go_at_call 71; (with_reducible refine (CM1.out _ _).mono ?_); rintro e w1 ⟨rfl, hm1⟩)
        go_roundw
        case rel => exact ⟨(lo + hi) / 2 + 1, hi, by go_num, rfl, by omega, hin, HM.out.trans0 hm1, Lib.hid ⟨HX.out, HI.out.2⟩⟩
        case measure => simp [intOf]; omega
      · have HX : Hid (∀ t (ht : t < l.length), (lo + hi) / 2 ≤ t → id ≤ l[t].1) := Lib.hid (fun t ht h => by
          rcases Nat.lt_or_ge ((lo + hi) / 2) t with h' | h'
          · have := HU.out _ t hmid ht h'; omega
          · have e : t = (lo + hi) / 2 := by omega
            subst e; omega)
        have hcm : 0 ≤ cmpI (l[(lo + hi) / 2]'hmid).1 id := by unfold cmpI; rw [if_neg hyx]; split <;> omega
        obtain ⟨k, hk⟩ : ∃ k, k = cmpI (l[(lo + hi) / 2]'hmid).1 id := ⟨_, rfl⟩
        have CM1 := Lib.hid (fun b w => hk ▸ CM.out (l[(lo + hi) / 2]'hmid).1 b w)
        rw [← hk] at hcm
        clear hk
        generalize l[(lo + hi) / 2]'hmid = y at *
        go_wp2_with (go_at_call 71; (with_reducible refine (CM1.out _ _).mono ?_); rintro e w1 ⟨rfl, hm1⟩)
        go_roundw
        case rel => exact ⟨lo, (lo + hi) / 2, rfl, by go_num, by omega, by omega, HM.out.trans0 hm1, Lib.hid ⟨HI.out.1, HX.out⟩⟩
        case measure => simp [intOf]; omega
    · obtain rfl : hi = lo := by omega
      have hpos := pos_cut hin HI.out.1 HI.out.2
      by_cases hn : hi < l.length
      · obtain ⟨c0, c1⟩ := HC.out hi hn
        rw [← HM.out.cell (p := ⟨g, hi * 2, none⟩) hgl (by simp)] at c0
        rw [← HM.out.cell (p := ⟨g, hi * 2 + 1, none⟩) hgl (by simp)] at c1
        have hge := HI.out.2 hi hn (Nat.le_refl _)
        have hhas := has_at HU.out HI.out.1 hn hge
        have HF : Hid (p = hi ∧ q = decide ((l[hi]'hn).1 = id)) := Lib.hid ⟨HP.out.trans hpos, HQ.out.trans hhas⟩
        have hcm : cmpI (l[hi]'hn).1 id = if (l[hi]'hn).1 = id then 0 else 1 := by unfold cmpI; rw [if_neg (by omega)]; split <;> split <;> omega
        have CM1 := Lib.hid (fun b w => hcm ▸ CM.out (l[hi]'hn).1 b w)
        clear hcm hhas hpos hge
        generalize l[hi]'hn = y at *
        by_cases hy : y.1 = id
        · rw [if_pos hy] at CM1
          have HY := Lib.hid hy
          clear hy
          go_wp2_with (go_at_call 71; (with_reducible refine (CM1.out _ _).mono ?_); rintro e w1 ⟨rfl, hm1⟩)
          go_ret2
          exact ⟨by rw [HF.out.1, HF.out.2]; simp [HY.out], HM.out.trans0 hm1⟩
        · rw [if_neg hy] at CM1
          have HY := Lib.hid hy
          clear hy
          go_wp2_with (go_at_call 71; (with_reducible refine (CM1.out _ _).mono ?_); rintro e w1 ⟨rfl, hm1⟩)
          go_ret2
          exact ⟨by rw [HF.out.1, HF.out.2]; simp [HY.out], HM.out.trans0 hm1⟩
      · have hend := has_end (fun t ht => HI.out.1 t ht (by omega))
        have HF : Hid (p = hi ∧ q = false) := Lib.hid ⟨HP.out.trans hpos, HQ.out.trans hend⟩
        clear hend hpos
        go_wp2
        go_ret2
        exact ⟨by rw [HF.out.1, HF.out.2]; simp [hn], HM.out⟩
end Go.Proofs.Ytcbafomhifdgpaa.Ss
end

section
/- Tables of sessions: New, find, Open. -/
namespace Go.Proofs.Ytcbafomhifdgpaa.Ss
open Go.RowKit Mem Si
set_option linter.unusedSimpArgs false
set_option linter.unusedVariables false
set_option maxRecDepth 100000

theorem search_nil (id : Int) (w : World) :
    Calls Try.prog 70 #[.slice none 0 0, .int .i64 id, .func (.func 71) #[] #[]] w
      fun e w' => e = .returned (.tuple #[.int .i64 (0 : Nat), .bool false]) ∧ w = w' := by
  go_enter Try.func70, Try.ntmps70
  go_wp2_with fail
  go_loopw [9, 10] (fun vl vh wr => vl = .int .i64 0 ∧ vh = .int .i64 0 ∧ w = wr) (fun vl vh _ => (intOf vh - intOf vl).toNat)
  case atStart => exact ⟨rfl, rfl, rfl⟩
  case round =>
    obtain ⟨rfl, rfl, rfl⟩ := hrel
    go_wp2
    go_ret2
    exact ⟨rfl, rfl⟩

def T1 : Nat := 101
/-- A table in memory: its own block t, and its row v. -/
def TabAt (w : World) (t : Nat) (v : Value) (l : List Sn) : Prop := Blk w t #[v] 101 ∧ RowsAt w (t + 1) v l
theorem TabAt.mod {w w' : World} {t : Nat} {v : Value} {l : List Sn} {R : List Nat} (h : TabAt w t v l) (m : Mod w w' R) (ht : t ∉ R) (hR : ∀ k, v.ownBlock = some k → k ∉ R) : TabAt w' t v l := ⟨h.1.mod m ht, h.2.mod m hR⟩
theorem TabAt.own {w : World} {t : Nat} {v : Value} {l : List Sn} (h : TabAt w t v l) : ∀ k, v.ownBlock = some k → t < k ∧ k < w.heap.size := fun k hk => ⟨by have := own_ge h.2 k hk; omega, Rw.own_lt h.2 k hk⟩
def TabP (t : Nat) (v : Value) (l' : List Sn) (w w' : World) : Prop :=
  ∃ v', TabAt w' t v' l' ∧ Mod w w' (t :: v.ownBlock.toList) ∧ ∀ k, v'.ownBlock = some k → v.ownBlock = some k ∨ w.heap.size ≤ k
theorem TabP.same {w w' : World} {t : Nat} {v : Value} {l : List Sn} (h : TabAt w t v l) (m : Mod w w' []) : TabP t v l w w' :=
  ⟨v, h.mod m (by simp) (by simp), m.weak0, fun k hk => .inl hk⟩

theorem new_calls (w : World) : Calls Try.prog 20 #[] w fun e w' => e = .returned (.pointer (some ⟨w.heap.size, 0, none⟩)) ∧ w' = w.alloc (.cells #[.slice none 0 0] 101) := by
  go_enter Try.func20, Try.ntmps20
  go_wp2
  go_ret
  exact ⟨rfl, rfl⟩
theorem new_tab (w : World) : TabAt (w.alloc (.cells #[.slice none 0 0] 101)) w.heap.size (.slice none 0 0) [] := ⟨Blk.new _ _ _, World.ownsRow_nil _ _ _ _⟩

theorem find_calls (t : Nat) (v : Value) (l : List Sn) (id : Int) (w : World) (h : TabAt w t v l) (hn : l.length ≤ 1000) (hu : Up l) :
    Calls Try.prog 54 #[.pointer (some ⟨t, 0, none⟩), .int .i64 id] w fun e w' => e = .returned (.tuple #[.int .i64 (pos l id), .bool (has l id)]) ∧ Mod w w' [] := by
  have C : Hid (Calls Try.prog 70 #[v, .int .i64 id, .func (.func 71) #[] #[]] w fun e w' => e = .returned (.tuple #[.int .i64 (pos l id), .bool (has l id)]) ∧ Mod w w' []) := by
    refine Lib.hid ?_
    rcases h.2.shape with ⟨rfl, rfl⟩ | ⟨g, cap, rfl, h1, h2, h3, h4⟩
    · refine (search_nil id w).mono ?_
      rintro e w1 ⟨rfl, rfl⟩
      exact ⟨rfl, Mod.refl _ _⟩
    · exact search_row g cap l id w (Rw.own_lt h.2 g rfl) hn hu h4
  have c0 := h.1.cell 0
  obtain ⟨a, c, rfl⟩ := Rw.own_slice h.2
  generalize pos l id = p at *
  generalize has l id = q at *
  clear h
  go_enter Try.func54, Try.ntmps54
  go_wp2_with fail
  (with_reducible refine (C.out).mono ?_)
  rintro e w1 ⟨rfl, hm1⟩
  have HM1 := Lib.hid hm1
  clear hm1
  go_wp2_with fail
  go_ret2
  exact ⟨rfl, HM1.out⟩

def insL (l : List Sn) (s : Sn) : List Sn := l.take (pos l s.1) ++ [s] ++ l.drop (pos l s.1)
theorem insL_len (l : List Sn) (s : Sn) : (insL l s).length = l.length + 1 := by
  have := pos_le l s.1
  simp [insL]; omega
def openL (l : List Sn) (id : Int) : List Sn × Int := if numB id = false then (l, 1) else if has l id = true then (l, 9) else if 32 ≤ l.length then (l, 7) else (insL l (id, 0), 0)

theorem errno_ret {a b : Int} (h : a = b) : Ending.returned (.int .i64 a) = Ending.returned (.int .i64 b) := by rw [h]

set_option maxHeartbeats 1000000 in
theorem open_calls (t : Nat) (v : Value) (l : List Sn) (id : Int) (w : World) (h : TabAt w t v l) (hn : l.length ≤ 1000) (hu : Up l) :
    Calls Try.prog 22 #[.pointer (some ⟨t, 0, none⟩), .int .i64 id] w fun e w' => e = .returned (.int .i64 (openL l id).2) ∧ TabP t v (openL l id).1 w w' := by
  have N := Lib.hid (fun w => number_calls id w)
  have F := Lib.hid (fun w hw => find_calls t v l id w hw hn hu)
  have HT := Lib.hid h
  obtain ⟨a, c, hv⟩ := Rw.own_slice h.2
  have hle := pos_le l id
  unfold openL
  cases hb : numB id with
  | false =>
    rw [if_pos rfl]
    rw [hb] at N
    clear h hv
    go_enter Try.func22, Try.ntmps22
    go_wp2_with fail
    (with_reducible refine (N.out _).mono ?_)
    rintro e w1 ⟨rfl, rfl⟩
    go_wp2_with fail
    go_ret
    exact ⟨rfl, TabP.same HT.out (Mod.refl _ _)⟩
  | true =>
    rw [hb] at N
    rw [if_neg (by simp)]
    cases hh : has l id with
    | true =>
      rw [if_pos rfl]
      rw [hh] at F
      clear h hv
      go_enter Try.func22, Try.ntmps22
      go_wp2_with fail
      (with_reducible refine (N.out _).mono ?_)
      rintro e w1 ⟨rfl, rfl⟩
      go_wp2_with fail
      (with_reducible refine (F.out _ HT.out).mono ?_)
      rintro e w1 ⟨rfl, hm1⟩
      have HM1 := Lib.hid hm1
      clear hm1
      go_wp2_with fail
      go_ret
      exact ⟨rfl, TabP.same HT.out HM1.out⟩
    | false =>
      rw [if_neg (by simp)]
      rw [hh] at F
      have HL := Lib.hid (show insL l (id, 0) = l.take (pos l id) ++ [((id, 0) : Sn)] ++ l.drop (pos l id) from rfl)
      have HRP := Lib.hid (rowsC_put l (pos l id) hle (id, 0))
      have hil := insL_len l (id, 0)
      have INS := Lib.hid (fun (W : World) (vb : Nat) (hr : RowsAt W (t + 1) v l) hb hB hne => ins_calls (t + 1) vb l.length (pos l id) v (rowsC l) (.int .i64 id) (.int .i64 0) W hr hb hB hne hle hn (rowsC_one l) rfl rfl)
      generalize pos l id = p at *
      by_cases h32 : 32 ≤ l.length
      · rw [if_pos h32]
        have h32' : (32 : Int) ≤ l.length := by omega
        rcases HT.out.2.shape with ⟨rfl, h0⟩ | ⟨g, cap, rfl, h1, h2, h3, h4⟩
        · have h0' : l.length = 0 := by rw [h0]; rfl
          omega
        · clear h hv h4 h1
          go_enter Try.func22, Try.ntmps22
          go_wp2_with fail
          (with_reducible refine (N.out _).mono ?_)
          rintro e w1 ⟨rfl, rfl⟩
          go_wp2_with fail
          (with_reducible refine (F.out _ HT.out).mono ?_)
          rintro e w1 ⟨rfl, hm1⟩
          have HM1 := Lib.hid hm1
          have c0 := (HT.out.1.mod hm1 (by simp)).cell 0
          clear hm1
          go_wp2_with fail
          go_ret
          exact ⟨rfl, TabP.same HT.out HM1.out⟩
      · rw [if_neg h32]
        have h32' : (l.length : Int) < 32 := by omega
        rw [hv] at F INS
        have HV := Lib.hid hv
        clear h hv
        go_enter Try.func22, Try.ntmps22
        go_wp2_with fail
        (with_reducible refine (N.out _).mono ?_)
        rintro e w1 ⟨rfl, rfl⟩
        go_wp2_with fail
        (with_reducible refine (F.out _ (HV.out ▸ HT.out)).mono ?_)
        rintro e w1 ⟨rfl, hm1⟩
        have HM1 := Lib.hid hm1
        have HT1 : Hid (TabAt w1 t (.slice a l.length c) l) := Lib.hid (HV.out ▸ HT.out.mod hm1 (by simp) (by simp))
        have c0 := HT1.out.1.cell 0
        have hml := HM1.out.size
        clear hm1
        have HI := Lib.hid (INS.out (w1.alloc (.cells #[.int .i64 id, .int .i64 0] 107)) w1.heap.size (HT1.out.2.alloc _) (by have := HT1.out.1.lt; simp; omega) (Blk.new _ _ _) (fun e => by have := (HT1.out.own _ e).2; omega))
        go_wp2_with fail
        (with_reducible refine (HI.out).mono ?_)
        rintro e w2 ⟨v', rfl, hown, hgrow, hwh⟩
        have HW := Lib.hid hwh
        clear hwh
        have HO2 := Lib.hid hown
        have HG2 := Lib.hid hgrow
        have ht1 := HT1.out.1.lt
        have HB2 := Lib.hid (Rw.blk_grown (HT1.out.1.alloc (.cells #[.int .i64 id, .int .i64 0] 107)) hgrow (fun e => by have := (HT1.out.own _ e.symm).1; omega))
        have d0 := HB2.out.cell 0
        have f0 := HB2.out.free 0
        clear hown hgrow c0
        obtain ⟨a', c', hv'⟩ := Rw.own_slice HO2.out
        have HV' := Lib.hid hv'
        subst hv'
        go_wp2_with fail
        go_ret
        refine ⟨rfl, .slice a' (l.length + 1) c', ⟨?_, ?_⟩, ?_, ?_⟩
        · have := HB2.out.set 0 (.slice a' (l.length + 1) c')
          simpa using this
        · have h := HO2.out
          rw [show ([.int .i64 id, .int .i64 0] : List Value) = rowC (id, 0) from rfl, HRP.out, ← HL.out] at h
          unfold RowsAt
          rw [hil]
          exact own_mod h ((Mod.refl w2 [t]).setCell (by simp) _) (fun k hk => by have := own_ge HO2.out k hk; simp; omega)
        · rw [HV.out]
          exact ((HM1.out.weak0.alloc _).grown HG2.out (fun k hk => .inl (by rw [hk]; simp))).setCell (by simp) _
        · intro k hk
          rw [HV.out]
          rcases HW.out k hk with h | h
          · exact .inl h
          · exact .inr (by simp at h; omega)
end Go.Proofs.Ytcbafomhifdgpaa.Ss
end

section
/- Tables of sessions: May, Take; a nil table. -/
namespace Go.Proofs.Ytcbafomhifdgpaa.Ss
open Go.RowKit Mem Si
set_option linter.unusedSimpArgs false
set_option linter.unusedVariables false
set_option maxRecDepth 100000

theorem has_pos {l : List Sn} {id : Int} (hu : Up l) (h : has l id = true) : ∃ hp : pos l id < l.length, l[pos l id].1 = id := by
  unfold has at h
  rw [List.any_eq_true] at h
  obtain ⟨s, hs, he⟩ := h
  obtain ⟨i, hi, rfl⟩ := List.getElem_of_mem hs
  simp only [beq_iff_eq] at he
  have hp : pos l id = i := pos_cut (by omega) (fun t ht hti => by have := hu t i ht hi hti; omega) (fun t ht hti => by
    rcases Nat.lt_or_ge i t with h | h
    · have := hu i t hi ht h; omega
    · have e : t = i := by omega
      subst e; omega)
  subst hp
  exact ⟨hi, he⟩
def sq (l : List Sn) (id : Int) : Int := (l.getD (pos l id) (0, 0)).2
def mayL (l : List Sn) (id seq : Int) : Bool × Int := if has l id = false then (false, 4) else if numB seq = false then (false, 1) else if sq l id < seq - 1 then (false, 170) else (decide (sq l id < seq), 0)
def takeL (l : List Sn) (id seq : Int) : List Sn := if (mayL l id seq).1 then l.set (pos l id) (id, seq) else l

theorem may_ret {a b : Bool} {x y : Int} (h1 : a = b) (h2 : x = y) : Ending.returned (.tuple #[.bool a, .int .i64 x]) = Ending.returned (.tuple #[.bool b, .int .i64 y]) := by rw [h1, h2]

set_option maxHeartbeats 1000000 in
theorem may_calls (t : Nat) (v : Value) (l : List Sn) (id seq : Int) (w : World) (h : TabAt w t v l) (hn : l.length ≤ 1000) (hu : Up l) :
    Calls Try.prog 29 #[.pointer (some ⟨t, 0, none⟩), .int .i64 id, .int .i64 seq] w fun e w' => e = .returned (.tuple #[.bool (mayL l id seq).1, .int .i64 (mayL l id seq).2]) ∧ Mod w w' [] := by
  have N := Lib.hid (fun w => number_calls seq w)
  have F := Lib.hid (find_calls t v l id w h hn hu)
  have HT := Lib.hid h
  have HU := Lib.hid hu
  unfold mayL
  cases hh : has l id with
  | false =>
    rw [if_pos rfl]
    rw [hh] at F
    clear h
    go_enter Try.func29, Try.ntmps29
    go_wp2_with fail
    (with_reducible refine (F.out).mono ?_)
    rintro e w1 ⟨rfl, hm1⟩
    have HM1 := Lib.hid hm1
    clear hm1
    go_wp2_with fail
    go_ret2
    exact ⟨rfl, HM1.out⟩
  | true =>
    rw [if_neg (by simp)]
    rw [hh] at F
    obtain ⟨hp, _⟩ := has_pos hu hh
    cases hb : numB seq with
    | false =>
      rw [if_pos rfl]
      rw [hb] at N
      clear h
      go_enter Try.func29, Try.ntmps29
      go_wp2_with fail
      (with_reducible refine (F.out).mono ?_)
      rintro e w1 ⟨rfl, hm1⟩
      have HM1 := Lib.hid hm1
      clear hm1
      go_wp2_with fail
      (with_reducible refine (N.out _).mono ?_)
      rintro e w2 ⟨rfl, rfl⟩
      go_wp2_with fail
      go_ret2
      exact ⟨rfl, HM1.out⟩
    | true =>
      rw [if_neg (by simp)]
      rw [hb] at N
      have hsb : 1 ≤ seq ∧ seq ≤ 549755813888 := of_decide_eq_true hb
      have hsq : sq l id = l[pos l id].2 := by unfold sq; rw [List.getD_eq_getElem?_getD, List.getElem?_eq_getElem hp]; rfl
      rcases h.2.shape with ⟨_, h0⟩ | ⟨g, cap, hv, h1, h2, h3, h4⟩
      · rw [h0] at hp; simp at hp
      · obtain ⟨_, c1⟩ := h4 _ hp
        rw [← hsq] at c1
        have hc0 := h.1.cell 0
        have hgl := Rw.own_lt h.2 g (by rw [hv]; rfl)
        subst hv
        have HC := Lib.hid (fun w1 (hm : Mod w w1 []) => And.intro ((hm.cell (p := ⟨t, 0, none⟩) h.1.lt (by simp)).trans hc0) ((hm.cell (p := ⟨g, pos l id * 2 + 1, none⟩) hgl (by simp)).trans c1))
        have hi' : (pos l id : Int) < l.length := by omega
        have hw1 : IntKind.i64.wrap (seq - 1) = seq - 1 := by rw [IntKind.wrap_i64]; omega
        clear h h4 hc0 c1 hsq hgl
        generalize sq l id = q at *
        generalize pos l id = p at *
        by_cases hq : q < seq - 1
        · rw [if_pos hq]
          go_enter Try.func29, Try.ntmps29
          go_wp2_with fail
          (with_reducible refine (F.out).mono ?_)
          rintro e w1 ⟨rfl, hm1⟩
          obtain ⟨c0, c1⟩ := HC.out w1 hm1
          have HM1 := Lib.hid hm1
          clear hm1
          go_wp2_with fail
          (with_reducible refine (N.out _).mono ?_)
          rintro e w2 ⟨rfl, rfl⟩
          go_wp2_with fail
          go_ret2
          exact ⟨rfl, HM1.out⟩
        · rw [if_neg hq]
          go_enter Try.func29, Try.ntmps29
          go_wp2_with fail
          (with_reducible refine (F.out).mono ?_)
          rintro e w1 ⟨rfl, hm1⟩
          obtain ⟨c0, c1⟩ := HC.out w1 hm1
          have HM1 := Lib.hid hm1
          clear hm1
          go_wp2_with fail
          (with_reducible refine (N.out _).mono ?_)
          rintro e w2 ⟨rfl, rfl⟩
          go_wp2_with fail
          go_ret2
          exact ⟨may_ret (by simp) rfl, HM1.out⟩

/-- A cell of an owned row is written. -/
theorem own_set {w : World} {base : Nat} {e : TypeId} {size g cap n : Nat} {xs : List Value} (h : w.ownsRow base e size (.slice (some ⟨g, 0, none⟩) n cap) n xs) (i : Nat) (u : Value) :
    (w.setCell ⟨g, i, none⟩ u).ownsRow base e size (.slice (some ⟨g, 0, none⟩) n cap) n (xs.set i u) := by
  obtain ⟨h0, ⟨h1, _⟩ | ⟨g', cap', cur, h1, hg, hb, h2, h3, h4, h5⟩⟩ := h
  · cases h1
  · injection h1 with e1 e2 e3
    injection e1 with e1
    injection e1 with e1
    subst e1 e3
    have hb' : Blk w g cur e := hb
    refine ⟨by rw [List.length_set]; exact h0, .inr ⟨g, cap, cur.setIfInBounds i u, rfl, hg, hb'.set i u, h2, h3, by simpa using h4, ?_⟩⟩
    subst h5
    rw [Array.toList_setIfInBounds, List.take_set]
theorem rowsC_set (l : List Sn) (i : Nat) (hi : i < l.length) (q : Int) : (rowsC l).set (i * 2 + 1) (.int .i64 q) = rowsC (l.set i (l[i].1, q)) := by
  have hs := rowsC_append (l.take i) (l[i] :: l.drop (i + 1))
  rw [← List.drop_eq_getElem_cons hi, List.take_append_drop] at hs
  have hl := rowsC_len (l.take i)
  rw [List.length_take, Nat.min_eq_left (by omega)] at hl
  have e : l.set i (l[i].1, q) = l.take i ++ (l[i].1, q) :: l.drop (i + 1) := by rw [List.set_eq_take_append_cons_drop, if_pos hi]
  rw [e, rowsC_append, hs, List.drop_eq_getElem_cons hi, List.set_append_right _ _ (by omega), show i * 2 + 1 - (rowsC (l.take i)).length = 1 by omega]
  rfl

set_option maxHeartbeats 1000000 in
theorem take_calls (t : Nat) (v : Value) (l : List Sn) (id seq : Int) (w : World) (h : TabAt w t v l) (hn : l.length ≤ 1000) (hu : Up l) :
    Calls Try.prog 23 #[.pointer (some ⟨t, 0, none⟩), .int .i64 id, .int .i64 seq] w fun e w' => e = .returned (.tuple #[.bool (mayL l id seq).1, .int .i64 (mayL l id seq).2]) ∧ TabP t v (takeL l id seq) w w' := by
  have M := Lib.hid (may_calls t v l id seq w h hn hu)
  have F := Lib.hid (fun w hw => find_calls t v l id w hw hn hu)
  have HT := Lib.hid h
  have HU := Lib.hid hu
  have hx : (mayL l id seq).1 = true → has l id = true := by
    unfold mayL
    intro h
    cases hh : has l id with
    | false => rw [hh, if_pos rfl] at h; cases h
    | true => rfl
  unfold takeL
  generalize (mayL l id seq).2 = E at *
  cases hf : (mayL l id seq).1 with
  | false =>
    rw [if_neg (by simp)]
    rw [hf] at M
    clear h hx
    go_enter Try.func23, Try.ntmps23
    go_wp2_with fail
    (with_reducible refine (M.out).mono ?_)
    rintro e w1 ⟨rfl, hm1⟩
    have HM1 := Lib.hid hm1
    clear hm1
    go_wp2_with fail
    go_ret2
    exact ⟨rfl, TabP.same HT.out HM1.out⟩
  | true =>
    rw [if_pos rfl]
    rw [hf] at M
    have hh := hx hf
    obtain ⟨hp, hid⟩ := has_pos hu hh
    rw [hh] at F
    rcases h.2.shape with ⟨_, h0⟩ | ⟨g, cap, hv, h1, h2, h3, h4⟩
    · rw [h0] at hp; simp at hp
    · obtain ⟨_, hc1⟩ := h4 _ hp
      have hrs := rowsC_set l (pos l id) hp seq
      rw [hid] at hrs
      have HRS := Lib.hid hrs
      have hlen : (l.set (pos l id) (id, seq)).length = l.length := by simp
      have hi' : (pos l id : Int) < l.length := by omega
      have htg : t < g := (h.own g (by rw [hv]; rfl)).1
      subst hv
      clear h hx hh hid h4 hrs
      generalize hL : l.set (pos l id) (id, seq) = l' at *
      clear hL
      obtain ⟨q1, hq1⟩ : ∃ q1, Value.int .i64 l[pos l id].2 = q1 := ⟨_, rfl⟩
      rw [hq1] at hc1
      clear hq1
      have HC1 := Lib.hid hc1
      clear hc1
      generalize pos l id = p at *
      go_enter Try.func23, Try.ntmps23
      go_wp2_with fail
      (with_reducible refine (M.out).mono ?_)
      rintro e w1 ⟨rfl, hm1⟩
      have HT1 := Lib.hid (HT.out.mod hm1 (by simp) (by simp))
      have HM1 := Lib.hid hm1
      clear hm1
      go_wp2_with fail
      (with_reducible refine (F.out _ HT1.out).mono ?_)
      rintro e w2 ⟨rfl, hm2⟩
      have HT2 := Lib.hid (HT1.out.mod hm2 (by simp) (by simp))
      have HM2 := Lib.hid (HM1.out.trans0 hm2)
      have c0 := HT2.out.1.cell 0
      have c1 := (HM2.out.cell (p := ⟨g, p * 2 + 1, none⟩) (HT.out.own g rfl).2 (by simp)).trans HC1.out
      have hfr : w2.frozen? ⟨g, p * 2 + 1, none⟩ = false := by
        obtain ⟨_, ⟨h1, _⟩ | ⟨g', cap', cur, h1, hg, hb, _⟩⟩ := HT2.out.2
        · cases h1
        · injection h1 with e1 e2 e3
          injection e1 with e1
          injection e1 with e1
          subst e1
          exact Blk.free hb _
      clear hm2
      go_wp2_with fail
      go_ret2
      refine ⟨rfl, .slice (some ⟨g, 0, none⟩) l.length cap, ⟨HT2.out.1.far (by show t ≠ g; omega) _, ?_⟩, HM2.out.weak0.setCell (by simp [Value.ownBlock]) _, fun k hk => .inl hk⟩
      unfold RowsAt
      rw [hlen, ← HRS.out]
      exact own_set HT2.out.2 _ _
end Go.Proofs.Ytcbafomhifdgpaa.Ss
end

section
/- Tables of sessions: Clone, All. -/
namespace Go.Proofs.Ytcbafomhifdgpaa.Ss
open Go.RowKit Mem Si
set_option linter.unusedSimpArgs false
set_option linter.unusedVariables false
set_option maxRecDepth 100000

set_option maxHeartbeats 1000000 in
theorem clone_calls (base : Nat) (v : Value) (l : List Sn) (w : World) (h : RowsAt w base v l) (hn : l.length ≤ 1000) :
    Calls Try.prog 56 #[v] w fun e w' => ∃ v', e = .returned v' ∧ Mod w w' [] ∧ RowsAt w' w.heap.size v' l := by
  obtain ⟨i0, hi0, hz0, hz1, hz2⟩ := info_parts info_sess
  have q57 : ∀ (w : World) (a : Option Addr) (n c : Nat), (binOp .eql 57 (.slice a n c) (.slice none 0 0)).run Try.prog w = .ok (.bool a.isNone) w := fun w a n c => Lib.run_eql_slice_nil w _ _ a n c 0 0 Try.underlying57
  rcases h.shape with ⟨rfl, rfl⟩ | ⟨g, cap, hv, h1, h2, h3, h4⟩
  · go_enter Try.func56, Try.ntmps56
    go_wp2_with fail
    go_ret
    exact ⟨_, rfl, Mod.refl _ _, World.ownsRow_nil _ _ _ _⟩
  · have hgl := Rw.own_lt h g (by rw [hv]; rfl)
    have hcl : ∀ j u, (rowsC l)[j]? = some u → (w.alloc (.cells #[] 107)).cell? ((⟨g, 0, none⟩ : Addr).add j) = some u := fun j u hj => by
      rw [Addr.add_lit, Nat.zero_add]
      have := World.ownsRow.cells h (g := g) (by rw [hv]; rfl) j u hj
      rw [Addr.add_lit, Nat.zero_add] at this
      rw [← this]
      exact World.cell?_of_block (a := ⟨g, j, none⟩) (Below.heap_alloc w _ g hgl)
    have hown := World.ownsRow_made (base := w.heap.size) (e := 107) (size := 2) w #[] 0 (Nat.le_refl _) (by unfold maxLen; omega) rfl
    have HO := Lib.hid hown
    have HC := Lib.hid hcl
    have hrl := rowsC_len l
    have hro := rowsC_one l
    subst hv
    clear h h4 hcl hown
    generalize hx : rowsC l = xs at *
    go_enter Try.func56, Try.ntmps56
    go_wp2_with (at_builtin; refine wpList_append_own _ rfl _ _ 57 rfl w.heap.size 107 i0 _ 2 16 Try.underlying57 hi0 hz0 hz1 hz2 rfl (by decide) _ _ _ rfl HO.out ⟨g, 0, none⟩ l.length cap xs rfl hrl HC.out hro (by unfold maxLen; omega) (by omega) (by simp) ?_; intro v' w1 hown' hgrow hnil; clear hnil; have HO1 := Lib.hid hown'; have HG1 := Lib.hid hgrow; clear hown' hgrow)
    go_ret
    refine ⟨v', rfl, ((Mod.refl w []).alloc _).grown HG1.out (fun k hk => .inr (Nat.le_of_eq (Option.some.inj hk))), ?_⟩
    have h := HO1.out
    rw [Nat.zero_add, List.nil_append, ← hx] at h
    exact h

theorem all_calls (t : Nat) (v : Value) (l : List Sn) (w : World) (h : TabAt w t v l) (hn : l.length ≤ 1000) :
    Calls Try.prog 27 #[.pointer (some ⟨t, 0, none⟩)] w fun e w' => ∃ v', e = .returned v' ∧ Mod w w' [] ∧ RowsAt w' w.heap.size v' l := by
  have C := Lib.hid (clone_calls (t + 1) v l w h.2 hn)
  have c0 := h.1.cell 0
  obtain ⟨a, c, rfl⟩ := Rw.own_slice h.2
  clear h
  go_enter Try.func27, Try.ntmps27
  go_wp2_with fail
  (with_reducible refine (C.out).mono ?_)
  rintro e w1 ⟨v', rfl, hm1, hr1⟩
  have HM1 := Lib.hid hm1
  have HR1 := Lib.hid hr1
  clear hm1 hr1
  obtain ⟨a', c', rfl⟩ := Rw.own_slice HR1.out
  go_wp2_with fail
  go_ret
  exact ⟨_, rfl, HM1.out, HR1.out⟩
theorem all_nil (w : World) : Calls Try.prog 27 #[.pointer none] w fun e w' => e = .returned (.slice none 0 0) ∧ w = w' := by
  go_enter Try.func27, Try.ntmps27
  go_wp2
  go_ret
  exact ⟨rfl, rfl⟩
theorem may_nil (id seq : Int) (w : World) : Calls Try.prog 29 #[.pointer none, .int .i64 id, .int .i64 seq] w fun e w' => e = .returned (.tuple #[.bool false, .int .i64 1]) ∧ w = w' := by
  go_enter Try.func29, Try.ntmps29
  go_wp2
  go_ret2
  exact ⟨rfl, rfl⟩
theorem take_nil (id seq : Int) (w : World) : Calls Try.prog 23 #[.pointer none, .int .i64 id, .int .i64 seq] w fun e w' => e = .returned (.tuple #[.bool false, .int .i64 1]) ∧ w = w' := by
  have M := Lib.hid (fun w => may_nil id seq w)
  go_enter Try.func23, Try.ntmps23
  go_wp2_with fail
  (with_reducible refine (M.out _).mono ?_)
  rintro e w1 ⟨rfl, rfl⟩
  go_wp2_with fail
  go_ret2
  exact ⟨rfl, rfl⟩
theorem open_nil (id : Int) (w : World) : Calls Try.prog 22 #[.pointer none, .int .i64 id] w fun e w' => e = .returned (.int .i64 1) ∧ w = w' := by
  go_enter Try.func22, Try.ntmps22
  go_wp2
  go_ret
  exact ⟨rfl, rfl⟩
theorem close_nil (id : Int) (w : World) : Calls Try.prog 28 #[.pointer none, .int .i64 id] w fun e w' => e = .returned (.int .i64 1) ∧ w = w' := by
  go_enter Try.func28, Try.ntmps28
  go_wp2
  go_ret
  exact ⟨rfl, rfl⟩
end Go.Proofs.Ytcbafomhifdgpaa.Ss
end

section
/- Tables of sessions: Text. -/
namespace Go.Proofs.Ytcbafomhifdgpaa.Ss
open Go.RowKit Mem Si Bits
open Ke (numI numI_size AtS strCells_app)
set_option linter.unusedSimpArgs false
set_option linter.unusedVariables false
set_option maxRecDepth 100000

def SB (l : List Sn) : Prop := ∀ s ∈ l, (0 ≤ s.1 ∧ s.1 ≤ 549755813888) ∧ (0 ≤ s.2 ∧ s.2 ≤ 549755813888)
def rowT (x : Sn) : ByteArray := numI x.1 ++ numI x.2
/-- The text of a table, as far as its first k sessions. -/
def txtK (l : List Sn) (k : Nat) : ByteArray := (l.take k).foldl (fun s x => s ++ rowT x) (numI (l.length : Int))
def txt (l : List Sn) : ByteArray := txtK l l.length
theorem txtK_succ (l : List Sn) (k : Nat) (hk : k < l.length) : txtK l (k + 1) = txtK l k ++ rowT l[k] := by
  unfold txtK
  rw [List.take_succ_eq_append_getElem hk, List.foldl_append]; rfl
theorem rowT_size (x : Sn) : (rowT x).size ≤ 18 := by
  have h1 := (numI_size x.1).2
  have h2 := (numI_size x.2).2
  unfold rowT
  rw [ByteArray.size_append]; omega
theorem txtK_size (l : List Sn) : ∀ k, k ≤ l.length → 1 ≤ (txtK l k).size ∧ (txtK l k).size ≤ 9 + 18 * k
  | 0, _ => by
    have := numI_size (l.length : Int)
    show 1 ≤ (numI (l.length : Int)).size ∧ (numI (l.length : Int)).size ≤ 9 + 18 * 0
    omega
  | k + 1, hk => by
    have ih := txtK_size l k (by omega)
    have := rowT_size (l[k]'(by omega))
    rw [txtK_succ l k (by omega), ByteArray.size_append]
    omega

theorem rows_wr {B b : Nat} {w w' : World} {base : Nat} {v : Value} {l : List Sn} (h : RowsAt w base v l) (hw : Sb.Wr B b w w') (hb : b < base) : RowsAt w' base v l := by
  obtain ⟨h0, ⟨rfl, h1⟩ | ⟨g, cap, cur, rfl, hg, hc, h2⟩⟩ := h
  · exact ⟨h0, .inl ⟨rfl, h1⟩⟩
  · exact ⟨h0, .inr ⟨g, cap, cur, rfl, hg, hw.keep g cur _ hc (by decide) (by omega), h2⟩⟩
theorem blk2 {w : World} {g : Nat} {a b : Value} {t : TypeId} (h : Blk w g #[a, b] t) : w.cell? ⟨g, 0, none⟩ = some a ∧ w.cell? ⟨g, 1, none⟩ = some b := ⟨h.cell 0, h.cell 1⟩

/-- The worlds of Text's inner region: before WriteString, and behind it. -/
structure TxC (w0 : World) (B b x : Nat) (cs : Array Value) (S0 S1 : ByteArray) (base : Nat) (v : Value) (l : List Sn) (m : Nat) (w : World) : Prop where
  bl : Below B w0 w
  sz : B ≤ w.heap.size
  at_ : AtS w B b (if m = 0 then S0 else S1)
  xb : Blk w x cs 107
  rw_ : RowsAt w base v l
theorem TxC.mod {w0 : World} {B b x : Nat} {cs : Array Value} {S0 S1 : ByteArray} {base : Nat} {v : Value} {l : List Sn} {m : Nat} {w w' : World} (h : TxC w0 B b x cs S0 S1 base v l m w) (hm : Mod w w' []) : TxC w0 B b x cs S0 S1 base v l m w' :=
  ⟨h.bl.trans (hm.below h.sz (by simp)), Nat.le_trans h.sz hm.size, Sb.at_mod h.at_ hm, h.xb.mod hm (by simp), h.rw_.mod hm (by simp)⟩
theorem TxC.wr {w0 : World} {B b x : Nat} {cs : Array Value} {S0 S1 : ByteArray} {base : Nat} {v : Value} {l : List Sn} {w w' : World} (h : TxC w0 B b x cs S0 S1 base v l 0 w) (hw : Sb.Wr B b w w') (hb : b < base) (hx : x ≠ b) (ha : AtS w' B b S1) : TxC w0 B b x cs S0 S1 base v l 1 w' :=
  ⟨h.bl.trans hw.below, Nat.le_trans h.sz hw.below.size, ha, hw.keep _ _ _ h.xb (by decide) hx, rows_wr h.rw_ hw hb⟩

theorem numI_calls (x : Int) (hx : 0 ≤ x ∧ x ≤ 549755813888) (w : World) : Calls Try.prog 39 #[.int .u64 x] w fun e w' => e = .returned (.string (numI x)) ∧ Mod w w' [] := by
  have h := num_calls x.toNat (by omega) w
  rw [Int.toNat_of_nonneg hx.1] at h
  exact h

set_option maxHeartbeats 4000000 in
theorem text_walk (q : Option Addr) (l : List Sn) (w : World) (hn : l.length ≤ 1000) (hb : SB l)
    (hall : ∀ w1, Mod w w1 [] → Calls Try.prog 27 #[.pointer q] w1 fun e w' => ∃ v', e = .returned v' ∧ Mod w1 w' [] ∧ RowsAt w' w1.heap.size v' l) :
    Calls Try.prog 24 #[.pointer q] w fun e w' => e = .returned (.string (txt l)) ∧ Mod w w' [] := by
  have NC := Lib.hid numI_calls
  have SUCC := Lib.hid (txtK_succ l)
  have SIZE := Lib.hid (txtK_size l)
  have HB := Lib.hid hb
  have HZ : Hid (numI (l.length : Int) = txtK l 0) := Lib.hid rfl
  have HE : Hid (txtK l l.length = txt l) := Lib.hid rfl
  have hn' : (l.length : Int) ≤ 1000 := by omega
  have hwl := IntWalk.u64_in (l.length : Int) (by omega)
  have HA0 : Hid (AtS (w.alloc (.cells #[.pointer none, .slice none 0 0] Sb.tB)) w.heap.size w.heap.size ⟨#[]⟩) := Lib.hid (.inl ⟨Nat.le_refl _, .slice none 0 0, Blk.new w _ _, World.ownsRow_nil _ _ _ _, by simp [Value.ownBlock]⟩)
  have HM0 := Lib.hid ((Mod.refl w []).alloc (.cells #[.pointer none, .slice none 0 0] Sb.tB))
  have AC := Lib.hid (hall _ HM0.out)
  clear hall hb
  go_enter Try.func24, Try.ntmps24
  go_wp2_with fail
  (with_reducible refine AC.out.mono ?_)
  rintro e w1 ⟨v', rfl, hm1, hr1⟩
  have HM1 := Lib.hid (HM0.out.trans0 hm1)
  have HA1 := Lib.hid (Sb.at_mod HA0.out hm1)
  have HR1 := Lib.hid (show RowsAt w1 (w.heap.size + 1) v' l by rw [World.size_alloc] at hr1; exact hr1)
  clear hm1 hr1 HA0 AC HM0
  obtain ⟨a, c, hva⟩ := Rw.own_slice HR1.out
  have HVA := Lib.hid hva
  subst hva
  go_wp2_with fail
  (with_reducible refine (NC.out _ ?_ _).mono ?_)
  · exact ⟨by omega, by omega⟩
  rintro e w2 ⟨rfl, hm2⟩
  have HM2 := Lib.hid (HM1.out.trans0 hm2)
  have HA2 := Lib.hid (Sb.at_mod HA1.out hm2)
  have HR2 := Lib.hid (HR1.out.mod hm2 (by simp))
  clear hm2 HM1 HA1 HR1
  rw [HZ.out]
  have hz0 := SIZE.out 0 (Nat.zero_le _)
  have WC := Lib.hid (Sb.write_calls w.heap.size w.heap.size (Lib.strCells ⟨#[]⟩) (txtK l 0) w2 HA2.out (by rw [Lib.strCells_length]; show 0 + _ ≤ _; omega) HM2.out.size)
  go_wp2_with fail
  (with_reducible refine WC.out.mono ?_)
  rintro e w3 ⟨rfl, ha3, hw3⟩
  have HA3 : Hid (AtS w3 w.heap.size w.heap.size (txtK l 0)) := Lib.hid (by have h := ha3; rw [← strCells_app, Ke.nil_app] at h; exact h)
  have HL3 := Lib.hid (HM2.out.below0.trans hw3.below)
  have HR3 := Lib.hid (rows_wr HR2.out hw3 (by omega))
  clear ha3 hw3 WC HA2 HM2 HR2 hz0
  go_wp2_with fail
  go_loopw [16] (fun vi wr => ∃ i : Nat, i ≤ l.length ∧ vi = .int .i64 (i : Int) ∧ AtS wr w.heap.size w.heap.size (txtK l i) ∧ Below w.heap.size w wr ∧ RowsAt wr (w.heap.size + 1) (.slice a l.length c) l) (fun vi _ => l.length + 1 - (intOf vi).toNat)
  case atStart => exact ⟨0, Nat.zero_le _, rfl, HA3.out, HL3.out, HR3.out⟩
  case round =>
    obtain ⟨i, hi, rfl, hat, hbl, hrw⟩ := hrel
    have HA := Lib.hid hat
    have HL := Lib.hid hbl
    have HR := Lib.hid hrw
    have hzr := Sb.at_lt hat
    clear hat hbl hrw HA3 HL3 HR3
    by_cases hlt : i < l.length
    · have hlt' : (i : Int) < l.length := by omega
      have hbi := HB.out _ (List.getElem_mem hlt)
      have HS := Lib.hid (SUCC.out i hlt)
      have hsz := SIZE.out i (by omega)
      have hrs := rowT_size (l[i]'hlt)
      have HRT : Hid (rowT (l[i]'hlt) = numI (l[i]'hlt).1 ++ numI (l[i]'hlt).2) := Lib.hid rfl
      rcases HR.out.shape with ⟨_, h0⟩ | ⟨g, cap, hv, h1, h2, h3, h4⟩
      · rw [h0] at hlt; simp at hlt
      · obtain ⟨d0, d1⟩ := h4 i hlt
        injection hv with e1 e2 e3
        subst e1 e3
        obtain ⟨T1, hT1⟩ : ∃ T1, T1 = txtK l (i + 1) := ⟨_, rfl⟩
        rw [← hT1] at HS
        have HT1 := Lib.hid hT1
        clear hT1 h4 e2
        generalize l[i]'hlt = x at *
        obtain ⟨x1, x2⟩ := x
        simp only at d0 d1 hbi HRT
        obtain ⟨hb1, hb2⟩ := hbi
        generalize txtK l i = T at *
        go_wp2_with fail
        have HXB := Lib.hid (Blk.new wr #[.int .i64 x1, .int .i64 x2] 107)
        have HMX := Lib.hid ((Mod.refl wr []).alloc (.cells #[.int .i64 x1, .int .i64 x2] 107))
        have HAX := Lib.hid (Sb.at_mod HA.out HMX.out)
        have HLX := Lib.hid (HL.out.trans (HMX.out.below (by omega) (by simp)))
        have HRX := Lib.hid (HR.out.mod HMX.out (by simp))
        have hwr : w.heap.size < wr.heap.size := hzr
        have hw1 := IntWalk.u64_in x1 (by omega)
        have hw2 := IntWalk.u64_in x2 (by omega)
        have hcat : ¬ (9223372036854775807 < (numI x1).size + (numI x2).size) := by
          have h1 := (numI_size x1).2
          have h2 := (numI_size x2).2
          omega
        clear d0 d1
        generalize wr.alloc _ = W at HXB HMX HAX HLX HRX ⊢
        have hWs : w.heap.size ≤ W.heap.size := HLX.out.size
        refine Fx.wp_region_f [9] (TxC w w.heap.size w.heap.size wr.heap.size #[.int .i64 x1, .int .i64 x2] T (T ++ (numI x1 ++ numI x2)) (w.heap.size + 1) (.slice (some ⟨g, 0, none⟩) l.length c) l) (by kernel_rfl) (by decide) (TxC.mod ⟨HLX.out, hWs, HAX.out, HXB.out, HRX.out⟩ (Mod.refl _ _).drew) ?_
        have hSS : ∀ m' w', TxC w w.heap.size w.heap.size wr.heap.size #[.int .i64 x1, .int .i64 x2] T (T ++ (numI x1 ++ numI x2)) (w.heap.size + 1) (.slice (some ⟨g, 0, none⟩) l.length c) l m' w' → _ := fun m' w' h => blk2 h.xb
        refine Fx.take (i := 0) (v := ?_) _ rfl (by kernel_rfl) (by kernel_rfl) (by rfl) hSS ?_ ?_
        rotate_left
        · (intro w' hSw; (try dsimp only at hSw); go_simp; first | done | with_reducible rfl)
        try simp only [List.getElem_toArray, List.getElem_cons_succ, List.getElem_cons_zero, Act.put, List.setIfInBounds_toArray, List.set_cons_zero, List.set_cons_succ]
        refine Fx.take (i := 1) (v := ?_) _ rfl (by kernel_rfl) (by kernel_rfl) (by rfl) hSS ?_ ?_
        rotate_left
        · (intro w' hSw; (try dsimp only at hSw); go_simp; first | done | with_reducible rfl)
        try simp only [List.getElem_toArray, List.getElem_cons_succ, List.getElem_cons_zero, Act.put, List.setIfInBounds_toArray, List.set_cons_zero, List.set_cons_succ]
        refine Fx.take (i := 2) (v := ?_) _ rfl (by kernel_rfl) (by kernel_rfl) (by rfl) hSS ?_ ?_
        rotate_left
        · (intro w' hSw; (try dsimp only at hSw); go_simp; first | done | with_reducible rfl)
        try simp only [List.getElem_toArray, List.getElem_cons_succ, List.getElem_cons_zero, Act.put, List.setIfInBounds_toArray, List.set_cons_zero, List.set_cons_succ]
        refine Fx.take (i := 4) (v := ?_) _ rfl (by kernel_rfl) (by kernel_rfl) (by rfl) hSS ?_ ?_
        rotate_left
        · (intro w' hSw; (try dsimp only at hSw); go_simp; first | done | with_reducible rfl)
        try simp only [List.getElem_toArray, List.getElem_cons_succ, List.getElem_cons_zero, Act.put, List.setIfInBounds_toArray, List.set_cons_zero, List.set_cons_succ]
        refine Fx.take (i := 5) (v := ?_) _ rfl (by kernel_rfl) (by kernel_rfl) (by rfl) hSS ?_ ?_
        rotate_left
        · (intro w' hSw; (try dsimp only at hSw); go_simp; first | done | with_reducible rfl)
        try simp only [List.getElem_toArray, List.getElem_cons_succ, List.getElem_cons_zero, Act.put, List.setIfInBounds_toArray, List.set_cons_zero, List.set_cons_succ]
        refine Fx.take (i := 6) (v := ?_) _ rfl (by kernel_rfl) (by kernel_rfl) (by rfl) hSS ?_ ?_
        rotate_left
        · (intro w' hSw; (try dsimp only at hSw); go_simp; first | done | with_reducible rfl)
        try simp only [List.getElem_toArray, List.getElem_cons_succ, List.getElem_cons_zero, Act.put, List.setIfInBounds_toArray, List.set_cons_zero, List.set_cons_succ]
        refine Fx.call' (i := 3) rfl (by kernel_rfl) (by kernel_rfl) (by rfl) ?_
        apply Exists.intro
        apply Exists.intro
        apply Exists.intro
        refine ⟨?_, ?_, ?_⟩
        · (intro w'; go_simp; first | done | (refine ⟨?_, ?_⟩ <;> with_reducible rfl) | with_reducible rfl)
        · (exact fun m w' h => (NC.out _ hb1 w').mono fun _ _ ⟨he, hm⟩ => ⟨he, h.mod hm⟩)
        try simp only [List.getElem_toArray, List.getElem_cons_succ, List.getElem_cons_zero, Act.put, List.setIfInBounds_toArray, List.set_cons_zero, List.set_cons_succ]
        refine Fx.call' (i := 7) rfl (by kernel_rfl) (by kernel_rfl) (by rfl) ?_
        apply Exists.intro
        apply Exists.intro
        apply Exists.intro
        refine ⟨?_, ?_, ?_⟩
        · (intro w'; go_simp; first | done | (refine ⟨?_, ?_⟩ <;> with_reducible rfl) | with_reducible rfl)
        · (exact fun m w' h => (NC.out _ hb2 w').mono fun _ _ ⟨he, hm⟩ => ⟨he, h.mod hm⟩)
        try simp only [List.getElem_toArray, List.getElem_cons_succ, List.getElem_cons_zero, Act.put, List.setIfInBounds_toArray, List.set_cons_zero, List.set_cons_succ]
        refine Fx.take (i := 8) (v := ?_) _ rfl (by kernel_rfl) (by kernel_rfl) (by rfl) hSS ?_ ?_
        rotate_left
        · (intro w' hSw; (try dsimp only at hSw); go_simp; first | done | with_reducible rfl)
        try simp only [List.getElem_toArray, List.getElem_cons_succ, List.getElem_cons_zero, Act.put, List.setIfInBounds_toArray, List.set_cons_zero, List.set_cons_succ]
        refine Fx.eff' (i := 9) 0 rfl (by kernel_rfl) (by kernel_rfl) (by rfl) (by kernel_rfl) (by kernel_rfl) ?_
        apply Exists.intro
        apply Exists.intro
        apply Exists.intro
        refine ⟨?_, ?_, ?_⟩
        · (intro w'; go_simp; first | done | (refine ⟨?_, ?_⟩ <;> with_reducible rfl) | with_reducible rfl)
        · (exact fun w' h => (Sb.write_calls w.heap.size w.heap.size (Lib.strCells T) (numI x1 ++ numI x2) w' h.at_ (by rw [Lib.strCells_length, ← HRT.out]; omega) h.sz).mono fun _ _ ⟨he, ha, hw⟩ => ⟨he, h.wr hw (by omega) (by omega) (by show Sb.At _ _ _ (Lib.strCells (T ++ _)); rw [strCells_app]; exact ha)⟩)
        try simp only [List.getElem_toArray, List.getElem_cons_succ, List.getElem_cons_zero, Act.put, List.setIfInBounds_toArray, List.set_cons_zero, List.set_cons_succ]
        refine Fx.done 1 (by kernel_rfl) (by kernel_rfl) (fun w4 hC => ?_)
        have hat4 := hC.at_
        rw [if_neg (by decide)] at hat4
        have HA4 : Hid (AtS w4 w.heap.size w.heap.size (txtK l (i + 1))) := Lib.hid (by rw [← HT1.out, HS.out, HRT.out]; exact hat4)
        have HL4 := Lib.hid hC.bl
        have HR4 := Lib.hid hC.rw_
        clear hC hat4
        go_wp2_with fail
        go_roundw
        case rel => exact ⟨i + 1, by omega, by go_num, HA4.out, HL4.out, HR4.out⟩
        case measure => simp [intOf]; omega
    · have hge : (l.length : Int) ≤ i := by omega
      have hii : i = l.length := by omega
      subst hii
      have hpos := (SIZE.out l.length (Nat.le_refl _)).1
      rw [HE.out] at HA hpos
      have hne : (txt l).data.toList ≠ [] := by
        intro h
        have h2 : (txt l).data.toList.length = (txt l).size := by simp
        rw [h] at h2
        simp at h2; omega
      have SC := Lib.hid (Sb.string_calls w.heap.size w.heap.size _ _ HA.out hne)
      have HSS : Hid ((⟨(txt l).data.toList.toArray⟩ : ByteArray) = txt l) := Lib.hid rfl
      rw [HSS.out] at SC
      clear hne HSS
      go_wp2_with fail
      (with_reducible refine SC.out.mono ?_)
      rintro e w9 ⟨rfl, hb9⟩
      have HL9 := Lib.hid (HL.out.trans hb9)
      clear hb9
      go_wp2_with fail
      go_ret
      exact ⟨rfl, Mod.of_below HL9.out⟩

theorem text_calls (t : Nat) (v : Value) (l : List Sn) (w : World) (h : TabAt w t v l) (hn : l.length ≤ 1000) (hb : SB l) :
    Calls Try.prog 24 #[.pointer (some ⟨t, 0, none⟩)] w fun e w' => e = .returned (.string (txt l)) ∧ Mod w w' [] :=
  text_walk _ l w hn hb (fun w1 hm => all_calls t v l w1 (h.mod hm (by simp) (by simp)) hn)
theorem text_nil (w : World) : Calls Try.prog 24 #[.pointer none] w fun e w' => e = .returned (.string (txt [])) ∧ Mod w w' [] :=
  text_walk _ [] w (by simp) (fun s hs => by cases hs) (fun w1 _ => (all_nil w1).mono fun e w' ⟨he, hw⟩ => ⟨_, he, hw ▸ Mod.refl _ _, World.ownsRow_nil _ _ _ _⟩)
end Go.Proofs.Ytcbafomhifdgpaa.Ss
end

section
/- Tables of sessions: plain facts. -/
namespace Go.Proofs.Ytcbafomhifdgpaa.Ss
open Go.RowKit Mem Si Bits
open Ke (numI numI_size AtS strCells_app)
set_option linter.unusedSimpArgs false
set_option linter.unusedVariables false

/-! What the texts say. -/
theorem num_cancel {a b : Int} {r s : ByteArray} (ha : 0 ≤ a ∧ a ≤ 9223372036854775807) (hb : 0 ≤ b ∧ b ≤ 9223372036854775807) (h : numI a ++ r = numI b ++ s) : a = b ∧ r = s := by
  have h1 := Ke.int_nx a ha.1 ha.2 r
  have h2 := Ke.int_nx b hb.1 hb.2 s
  rw [h] at h1
  have e1 := h1.1.symm.trans h2.1
  have e2 := h1.2.symm.trans h2.2
  exact ⟨by omega, (Prod.mk.inj e2).1⟩
theorem txtK_cat (l : List Sn) : ∀ (m : List Sn) (s : ByteArray), m.foldl (fun s x => s ++ rowT x) s = s ++ Ke.cat (m.map rowT) := by
  intro m
  induction m with
  | nil => intro s; show s = s ++ ⟨#[]⟩; rw [Ke.app_nil]
  | cons x m ih => intro s; rw [List.foldl_cons, ih]; show s ++ rowT x ++ Ke.cat (m.map rowT) = s ++ (rowT x ++ Ke.cat (m.map rowT)); rw [ByteArray.append_assoc]
theorem txt_cat (l : List Sn) : txt l = numI l.length ++ Ke.cat (l.map rowT) := by
  unfold txt txtK
  rw [List.take_length, txtK_cat l]
theorem cat_inj : ∀ (l m : List Sn), SB l → SB m → l.length = m.length → Ke.cat (l.map rowT) = Ke.cat (m.map rowT) → l = m
  | [], [], _, _, _, _ => rfl
  | [], _ :: _, _, _, h, _ => by simp at h
  | _ :: _, [], _, _, h, _ => by simp at h
  | x :: l, y :: m, hl, hm, hn, h => by
    have hx := hl x (by simp)
    have hy := hm y (by simp)
    have h : rowT x ++ Ke.cat (l.map rowT) = rowT y ++ Ke.cat (m.map rowT) := h
    unfold rowT at h
    rw [ByteArray.append_assoc, ByteArray.append_assoc] at h
    obtain ⟨e1, h⟩ := num_cancel ⟨hx.1.1, by omega⟩ ⟨hy.1.1, by omega⟩ h
    obtain ⟨e2, h⟩ := num_cancel ⟨hx.2.1, by omega⟩ ⟨hy.2.1, by omega⟩ h
    have := cat_inj l m (fun s hs => hl s (by simp [hs])) (fun s hs => hm s (by simp [hs])) (by simpa using hn) h
    rw [this, show x = y from Prod.ext e1 e2]
theorem txt_inj {l m : List Sn} (hl : SB l) (hm : SB m) (h1 : l.length ≤ 1000) (h2 : m.length ≤ 1000) (h : txt l = txt m) : l = m := by
  rw [txt_cat, txt_cat] at h
  obtain ⟨e1, h⟩ := num_cancel ⟨by omega, by omega⟩ ⟨by omega, by omega⟩ h
  exact cat_inj l m hl hm (by omega) h

/-! Tables stay good. -/
structure Good (l : List Sn) : Prop where
  up : Up l
  len : l.length ≤ 32
  rg : ∀ s ∈ l, (1 ≤ s.1 ∧ s.1 ≤ 549755813888) ∧ (0 ≤ s.2 ∧ s.2 ≤ 549755813888)
theorem Good.sb {l : List Sn} (h : Good l) : SB l := fun s hs => ⟨⟨by have := (h.rg s hs).1; omega, (h.rg s hs).1.2⟩, (h.rg s hs).2⟩
theorem Good.nil : Good [] := ⟨fun i j hi => by simp at hi, by simp, by simp⟩
theorem up_pair {l : List Sn} : Up l ↔ l.Pairwise (fun a b => a.1 < b.1) := by
  rw [List.pairwise_iff_getElem]
  exact ⟨fun h i j hi hj hij => h i j hi hj hij, fun h i j hi hj hij => h i j hi hj hij⟩
theorem pos_lt {l : List Sn} (hu : Up l) (id : Int) : (∀ s ∈ l.take (pos l id), s.1 < id) ∧ (∀ s ∈ l.drop (pos l id), id ≤ s.1) := by
  induction l with
  | nil => simp
  | cons a l ih =>
    have hp := up_pair.1 hu
    rw [List.pairwise_cons] at hp
    have ih := ih (up_pair.2 hp.2)
    by_cases h : a.1 < id
    · have e : pos (a :: l) id = pos l id + 1 := by unfold pos; rw [List.countP_cons_of_pos (by simpa using h)]
      rw [e, List.take_succ_cons, List.drop_succ_cons]
      refine ⟨fun s hs => ?_, ih.2⟩
      rcases List.mem_cons.1 hs with rfl | hs
      · exact h
      · exact ih.1 s hs
    · have e : pos (a :: l) id = 0 := by
        unfold pos
        rw [List.countP_eq_zero]
        intro s hs
        rcases List.mem_cons.1 hs with rfl | hs
        · simpa using h
        · have := hp.1 s hs
          simp; omega
      rw [e, List.take_zero, List.drop_zero]
      refine ⟨by simp, fun s hs => ?_⟩
      rcases List.mem_cons.1 hs with rfl | hs
      · omega
      · have := hp.1 s hs; omega
theorem has_not {l : List Sn} {id : Int} (h : has l id = false) : ∀ s ∈ l, s.1 ≠ id := by
  unfold has at h
  rw [List.any_eq_false] at h
  intro s hs
  simpa using h s hs
theorem up_ins {l : List Sn} {s : Sn} (hu : Up l) (h : has l s.1 = false) : Up (insL l s) := by
  have hp := up_pair.1 hu
  obtain ⟨h1, h2⟩ := pos_lt hu s.1
  have hn := has_not h
  have hall : l.take (pos l s.1) ++ l.drop (pos l s.1) = l := List.take_append_drop _ _
  rw [← hall, List.pairwise_append] at hp
  obtain ⟨p1, p2, p3⟩ := hp
  refine up_pair.2 ?_
  unfold insL
  rw [List.append_assoc, List.pairwise_append]
  refine ⟨p1, ?_, ?_⟩
  · show (s :: l.drop (pos l s.1)).Pairwise _
    rw [List.pairwise_cons]
    refine ⟨fun b hb => ?_, p2⟩
    have := h2 b hb
    have := hn b (List.mem_of_mem_drop hb)
    omega
  · intro a ha b hb
    rcases List.mem_cons.1 hb with rfl | hb
    · exact h1 a ha
    · exact p3 a ha b hb
theorem mem_ins {l : List Sn} {s x : Sn} (h : x ∈ insL l s) : x = s ∨ x ∈ l := by
  unfold insL at h
  rw [List.mem_append, List.mem_append] at h
  rcases h with (h | h) | h
  · exact .inr (List.mem_of_mem_take h)
  · exact .inl (by simpa using h)
  · exact .inr (List.mem_of_mem_drop h)
theorem good_open {l : List Sn} (h : Good l) (id : Int) : Good (openL l id).1 := by
  unfold openL
  by_cases hb : numB id = false
  · rw [if_pos hb]; exact h
  · rw [if_neg hb]
    by_cases hh : has l id = true
    · rw [if_pos hh]; exact h
    · rw [if_neg hh]
      by_cases h32 : 32 ≤ l.length
      · rw [if_pos h32]; exact h
      · rw [if_neg h32]
        have hb' : 1 ≤ id ∧ id ≤ 549755813888 := of_decide_eq_true (by simpa [numB] using hb)
        refine ⟨up_ins h.up (by simpa using hh), by rw [insL_len]; omega, fun s hs => ?_⟩
        rcases mem_ins hs with rfl | hs
        · exact ⟨hb', ⟨Int.le_refl 0, by show (0 : Int) ≤ 549755813888; omega⟩⟩
        · exact h.rg s hs
theorem up_set {l : List Sn} (hu : Up l) (i : Nat) (hi : i < l.length) (s : Sn) (h : s.1 = l[i].1) : Up (l.set i s) := by
  intro a b ha hb hab
  rw [List.length_set] at ha hb
  have := hu a b ha hb hab
  rw [List.getElem_set, List.getElem_set]
  split <;> split <;> (try subst_vars) <;> (try omega)
theorem good_take {l : List Sn} (h : Good l) (id seq : Int) : Good (takeL l id seq) := by
  unfold takeL
  by_cases hm : (mayL l id seq).1 = true
  · rw [if_pos hm]
    have hh : has l id = true := by
      cases hh : has l id with
      | false => unfold mayL at hm; rw [hh, if_pos rfl] at hm; cases hm
      | true => rfl
    have hb : numB seq = true := by
      cases hb : numB seq with
      | false => unfold mayL at hm; rw [hh, hb, if_neg (by simp), if_pos rfl] at hm; cases hm
      | true => rfl
    have hb' : 1 ≤ seq ∧ seq ≤ 549755813888 := of_decide_eq_true (by simpa [numB] using hb)
    obtain ⟨hp, he⟩ := has_pos h.up hh
    refine ⟨up_set h.up _ hp _ he.symm, by rw [List.length_set]; exact h.len, fun s hs => ?_⟩
    rcases List.mem_or_eq_of_mem_set hs with hs | rfl
    · exact h.rg s hs
    · have := (h.rg _ (List.getElem_mem hp)).1
      exact ⟨by rw [he] at this; exact this, by omega, hb'.2⟩
  · rw [if_neg hm]; exact h
end Go.Proofs.Ytcbafomhifdgpaa.Ss
end

section
/- The worked example (awake); the law SessNil. -/
namespace Go.Proofs.Ytcbafomhifdgpaa.Ss
open Go.RowKit Mem Si Bits
set_option linter.unusedSimpArgs false
set_option linter.unusedVariables false
set_option maxRecDepth 100000

/-- A call on a table that is none of the first world's. -/
theorem tab_step {w0 w1 w2 : World} {t : Nat} {v : Value} {l l' : List Sn} (hm : Mod w0 w1 []) (ht : w0.heap.size ≤ t) (h : TabAt w1 t v l) (h2 : TabP t v l' w1 w2) : ∃ v', TabAt w2 t v' l' ∧ Mod w0 w2 [] := by
  obtain ⟨v', h3, hm2, _⟩ := h2
  refine ⟨v', h3, hm.trans hm2 (fun r hr => .inr ?_)⟩
  rcases List.mem_cons.1 hr with rfl | hr
  · exact ht
  · have := (h.own r (by simpa using hr)).1; omega

def upB (l : List Sn) : Bool := (List.range l.length).all fun i => (List.range l.length).all fun j => !(decide (i < j)) || decide ((l.getD i (0, 0)).1 < (l.getD j (0, 0)).1)
theorem up_of {l : List Sn} (h : upB l = true) : Up l := by
  intro i j hi hj hij
  unfold upB at h
  rw [List.all_eq_true] at h
  have h1 := h i (by simpa using hi)
  rw [List.all_eq_true] at h1
  have h2 := h1 j (by simpa using hj)
  simpa [hij, hi, hj] using h2
theorem ex1 : openL [] 5 = ([((5, 0) : Sn)], 0) := by decide +kernel
theorem ex2 : mayL [((5, 0) : Sn)] 5 1 = (true, 0) ∧ takeL [((5, 0) : Sn)] 5 1 = [((5, 1) : Sn)] := by decide +kernel
theorem ex3 : mayL [((5, 1) : Sn)] 5 1 = (false, 0) ∧ takeL [((5, 1) : Sn)] 5 1 = [((5, 1) : Sn)] := by decide +kernel
theorem ex4 : mayL [((5, 1) : Sn)] 5 3 = (false, 170) ∧ takeL [((5, 1) : Sn)] 5 3 = [((5, 1) : Sn)] := by decide +kernel
theorem ex5 : mayL [((5, 1) : Sn)] 6 1 = (false, 4) ∧ takeL [((5, 1) : Sn)] 6 1 = [((5, 1) : Sn)] := by decide +kernel
theorem ex6 : txt [((5, 1) : Sn)] = ⟨#[1, 5, 1]⟩ := by decide +kernel
theorem ex7 : txt [] = ⟨#[0]⟩ := by decide +kernel

theorem sb51 : SB [((5, 1) : Sn)] := by
  intro s hs
  obtain rfl : s = (5, 1) := by simpa using hs
  exact ⟨by decide, by decide⟩

set_option maxHeartbeats 2000000 in
theorem awake_calls (w : World) : Calls Try.prog 21 #[] w fun e w' => e = .returned (.bool true) ∧ Mod w w' [] := by
  have hu0 : Up [] := up_of (by decide +kernel)
  have hu1 : Up [((5, 0) : Sn)] := up_of (by decide +kernel)
  have hu2 : Up [((5, 1) : Sn)] := up_of (by decide +kernel)
  have O := Lib.hid (fun t v w h => open_calls t v [] 5 w h (by simp) hu0)
  rw [ex1] at O
  have K1 := Lib.hid (fun t v w h => take_calls t v [((5, 0) : Sn)] 5 1 w h (by simp) hu1)
  rw [ex2.1, ex2.2] at K1
  have K2 := Lib.hid (fun t v w h => take_calls t v [((5, 1) : Sn)] 5 1 w h (by simp) hu2)
  rw [ex3.1, ex3.2] at K2
  have K3 := Lib.hid (fun t v w h => take_calls t v [((5, 1) : Sn)] 5 3 w h (by simp) hu2)
  rw [ex4.1, ex4.2] at K3
  have K4 := Lib.hid (fun t v w h => take_calls t v [((5, 1) : Sn)] 6 1 w h (by simp) hu2)
  rw [ex5.1, ex5.2] at K4
  have X := Lib.hid (fun t v w h => text_calls t v [((5, 1) : Sn)] w h (by simp) sb51)
  rw [ex6] at X
  dsimp only at O K1 K2 K3 K4
  have hq : ((⟨#[1, 5, 1]⟩ : ByteArray).toList == (⟨#[1, 5, 1]⟩ : ByteArray).toList) = true := by simp
  have NW := Lib.hid new_calls
  have NT := Lib.hid (new_tab w)
  have HM0 := Lib.hid ((Mod.refl w []).alloc (.cells #[.slice none 0 0] 101))
  clear hu0 hu1 hu2
  go_enter Try.func21, Try.ntmps21
  go_wp2_with fail
  (with_reducible refine (NW.out _).mono ?_)
  rintro e w1 ⟨rfl, hw1⟩
  rw [← hw1] at NT HM0
  clear hw1
  have hle : w.heap.size ≤ w.heap.size := Nat.le_refl _
  go_wp2_with fail
  (with_reducible refine (O.out _ _ _ NT.out).mono ?_)
  rintro e w2 ⟨rfl, h2⟩
  obtain ⟨v2, T2, M2⟩ := tab_step HM0.out (Nat.le_refl _) NT.out h2
  have HT2 := Lib.hid T2
  have HM2 := Lib.hid M2
  clear h2 T2 M2 NT HM0
  go_wp2_with fail
  (with_reducible refine (K1.out _ _ _ HT2.out).mono ?_)
  rintro e w3 ⟨rfl, h2⟩
  obtain ⟨v3, T2, M2⟩ := tab_step HM2.out (Nat.le_refl _) HT2.out h2
  have HT3 := Lib.hid T2
  have HM3 := Lib.hid M2
  clear h2 T2 M2 HT2 HM2
  go_wp2_with fail
  (with_reducible refine (K2.out _ _ _ HT3.out).mono ?_)
  rintro e w4 ⟨rfl, h2⟩
  obtain ⟨v4, T2, M2⟩ := tab_step HM3.out (Nat.le_refl _) HT3.out h2
  have HT4 := Lib.hid T2
  have HM4 := Lib.hid M2
  clear h2 T2 M2 HT3 HM3
  go_wp2_with fail
  (with_reducible refine (K3.out _ _ _ HT4.out).mono ?_)
  rintro e w5 ⟨rfl, h2⟩
  obtain ⟨v5, T2, M2⟩ := tab_step HM4.out (Nat.le_refl _) HT4.out h2
  have HT5 := Lib.hid T2
  have HM5 := Lib.hid M2
  clear h2 T2 M2 HT4 HM4
  go_wp2_with fail
  (with_reducible refine (K4.out _ _ _ HT5.out).mono ?_)
  rintro e w6 ⟨rfl, h2⟩
  obtain ⟨v6, T2, M2⟩ := tab_step HM5.out (Nat.le_refl _) HT5.out h2
  have HT6 := Lib.hid T2
  have HM6 := Lib.hid M2
  clear h2 T2 M2 HT5 HM5
  go_wp2_with fail
  (with_reducible refine (X.out _ _ _ HT6.out).mono ?_)
  rintro e w7 ⟨rfl, hm7⟩
  have HM7 := Lib.hid (HM6.out.trans0 hm7)
  clear hm7
  go_wp2_with fail
  go_ret
  exact ⟨rfl, HM7.out⟩

set_option maxHeartbeats 2000000 in
theorem sessNil_calls (id : Int) (h1 : (Lit.int .i64 id).wf = true) (seq : Int) (h2 : (Lit.int .i64 seq).wf = true) (w : World) :
    Calls Try.prog 9 #[.int .i64 id, .int .i64 seq] w fun e w' => e = .returned (.bool true) ∧ Below w.heap.size w w' := by
  have AW := Lib.hid awake_calls
  have TN := Lib.hid (fun w => take_nil id seq w)
  have MN := Lib.hid (fun w => may_nil id seq w)
  have ON := Lib.hid (fun w => open_nil id w)
  have CN := Lib.hid (fun w => close_nil id w)
  have AN := Lib.hid all_nil
  have XN := Lib.hid text_nil
  rw [ex7] at XN
  have hq : ((⟨#[0]⟩ : ByteArray).toList == (⟨#[0]⟩ : ByteArray).toList) = true := by simp
  clear h1 h2
  go_enter Try.func9, Try.ntmps9
  go_wp2_with fail
  (with_reducible refine (TN.out _).mono ?_)
  rintro e w1 ⟨rfl, rfl⟩
  go_wp2_with fail
  (with_reducible refine (MN.out _).mono ?_)
  rintro e w1 ⟨rfl, rfl⟩
  go_wp2_with fail
  (with_reducible refine (AW.out _).mono ?_)
  rintro e w1 ⟨rfl, hm1⟩
  have HM1 := Lib.hid hm1
  clear hm1
  go_wp2_with fail
  (with_reducible refine (ON.out _).mono ?_)
  rintro e w2 ⟨rfl, rfl⟩
  go_wp2_with fail
  (with_reducible refine (CN.out _).mono ?_)
  rintro e w2 ⟨rfl, rfl⟩
  go_wp2_with fail
  (with_reducible refine (AN.out _).mono ?_)
  rintro e w2 ⟨rfl, rfl⟩
  go_wp2_with fail
  (with_reducible refine (XN.out _).mono ?_)
  rintro e w2 ⟨rfl, hm2⟩
  have HM2 := Lib.hid (HM1.out.trans0 hm2)
  clear hm2
  go_wp2_with fail
  go_ret
  exact ⟨rfl, HM2.out.below0⟩
end Go.Proofs.Ytcbafomhifdgpaa.Ss
end

section
/- The law SessOnce. -/
namespace Go.Proofs.Ytcbafomhifdgpaa.Ss
open Go.RowKit Mem Si Bits
set_option linter.unusedSimpArgs false
set_option linter.unusedVariables false
set_option maxRecDepth 100000

theorem ints_rd {w : World} {a : Value} (h : Open.Rd w (.sl (.int .i64) 8) [a]) : ∃ (l : List Int) (ad : Option Addr) (cap : Nat), a = .slice ad l.length cap ∧ l.length ≤ 140737488351232 ∧ (∀ x ∈ l, -9223372036854775808 ≤ x ∧ x ≤ 9223372036854775807) ∧
    (l = [] ∨ ∃ b off, ad = some ⟨b, off, none⟩ ∧ ∀ k (hk : k < l.length), w.cell? ⟨b, off + k, none⟩ = some (.int .i64 l[k])) := by
  obtain ⟨v, rows, hv, ⟨ad, cap, rfl, hc1, hc2, hn, hpos, hcell⟩, hlen, hl1, hrd⟩ := h
  obtain rfl : a = _ := by simpa using hv
  obtain ⟨l, rfl, hl⟩ := Open.rows_map (rows := rows) (fun n : Int => [Value.int .i64 n]) (fun x => -9223372036854775808 ≤ x ∧ x ≤ 9223372036854775807) (fun r hr => by
    obtain ⟨n, rfl, hwf⟩ := hrd r hr
    have h0 : -9223372036854775808 ≤ n ∧ n ≤ 9223372036854775807 := by simpa [Lit.wf, IntKind.min, IntKind.max, IntKind.signed, IntKind.bits] using hwf
    exact ⟨n, rfl, h0⟩)
  refine ⟨l, ad, cap, by simp, by simp at hlen; omega, hl, ?_⟩
  by_cases h0 : l = []
  · exact .inl h0
  · obtain ⟨b, off, rfl⟩ := hpos (by simpa using h0) (by decide)
    refine .inr ⟨b, off, rfl, fun k hk => ?_⟩
    have := (hcell b off rfl k (by simpa using hk) 0 (by decide)).1
    simpa [Open.Sh.cells] using this
theorem keepC {a b : World} (m : Mod a b []) {p : Addr} {u : Value} (h : a.cell? p = some u) : b.cell? p = some u := (m.cell (Rw.cell_lt h) (by simp)).trans h

theorem up_one (s : Sn) : Up [s] := by
  intro i j hi hj hij
  simp at hi hj
  omega
theorem open1 (id : Int) (h : 1 ≤ id) (h2 : id ≤ 549755813888) : openL [] id = ([(id, 0)], 0) := by
  have hb : numB id = true := decide_eq_true ⟨h, h2⟩
  unfold openL
  rw [hb, if_neg (by simp), if_neg (by simp [has]), if_neg (by simp)]
  rfl
theorem may1 (id s x : Int) : mayL [(id, s)] id x = if numB x = false then (false, 1) else if s < x - 1 then (false, 170) else (decide (s < x), 0) := by
  have hh : has [(id, s)] id = true := by simp [has]
  have hp : pos [(id, s)] id = 0 := by simp [pos]
  have hs : sq [(id, s)] id = s := by unfold sq; rw [hp]; rfl
  unfold mayL
  rw [hh, hs, if_neg (by simp)]
theorem take1 (id s x : Int) : takeL [(id, s)] id x = if (mayL [(id, s)] id x).1 then [(id, x)] else [(id, s)] := by
  have hp : pos [(id, s)] id = 0 := by simp [pos]
  unfold takeL
  rw [hp]; rfl

theorem once_skip (id s x : Int) (h0 : 0 ≤ s) (h1 : s ≤ 1000) (E : Int) (hE : E = if numB x = false then 1 else if s < x - 1 then 170 else 0) (hx : x ≠ s + 1) : mayL [(id, s)] id x = (false, E) ∧ takeL [(id, s)] id x = [(id, s)] := by
  have hm : mayL [(id, s)] id x = (false, E) := by
    rw [may1, hE]
    by_cases hb : numB x = false
    · rw [if_pos hb, if_pos hb]
    · rw [if_neg hb, if_neg hb]
      by_cases h : s < x - 1
      · rw [if_pos h, if_pos h]
      · rw [if_neg h, if_neg h, decide_eq_false (by omega)]
  exact ⟨hm, by rw [take1, hm]; rfl⟩
theorem once_fresh (id s : Int) (h0 : 0 ≤ s) (h1 : s ≤ 1000) : mayL [(id, s)] id (s + 1) = (true, 0) ∧ takeL [(id, s)] id (s + 1) = [(id, s + 1)] := by
  have hb : numB (s + 1) = true := decide_eq_true ⟨by omega, by omega⟩
  have hm : mayL [(id, s)] id (s + 1) = (true, 0) := by
    rw [may1, hb, if_neg (by simp), if_neg (by omega), decide_eq_true (by omega)]
  exact ⟨hm, by rw [take1, hm]; rfl⟩

set_option maxHeartbeats 4000000 in
theorem sessOnce_calls (w : World) (id : Int) (hid : (Lit.int .i64 id).wf = true) (a : Value) (ha : Open.Rd w (.sl (.int .i64) 8) [a]) :
    Calls Try.prog 6 #[.int .i64 id, a] w fun e w' => e = .returned (.bool true) ∧ Below w.heap.size w w' := by
  obtain ⟨xs, ad, cap, rfl, hl, hx, hcase⟩ := ints_rd ha
  have AW := Lib.hid awake_calls
  have NW := Lib.hid new_calls
  have NT := Lib.hid (new_tab w)
  have HM0 := Lib.hid ((Mod.refl w []).alloc (.cells #[.slice none 0 0] 101))
  clear ha
  by_cases hi1 : id < 1
  · go_enter Try.func6, Try.ntmps6
    go_wp2_with fail
    (with_reducible refine (NW.out _).mono ?_)
    rintro e w1 ⟨rfl, hw1⟩
    rw [← hw1] at HM0
    clear hw1
    go_wp2_with fail
    (with_reducible refine (AW.out _).mono ?_)
    rintro e w2 ⟨rfl, hm2⟩
    have HM2 := Lib.hid (HM0.out.trans0 hm2)
    clear hm2
    go_wp2_with fail
    (with_reducible refine (AW.out _).mono ?_)
    rintro e w3 ⟨rfl, hm3⟩
    have HM3 := Lib.hid (HM2.out.trans0 hm3)
    clear hm3
    go_wp2_with fail
    go_ret
    exact ⟨rfl, HM3.out.below0⟩
  · by_cases hi2 : 549755813888 < id
    · go_enter Try.func6, Try.ntmps6
      go_wp2_with fail
      (with_reducible refine (NW.out _).mono ?_)
      rintro e w1 ⟨rfl, hw1⟩
      rw [← hw1] at HM0
      clear hw1
      go_wp2_with fail
      (with_reducible refine (AW.out _).mono ?_)
      rintro e w2 ⟨rfl, hm2⟩
      have HM2 := Lib.hid (HM0.out.trans0 hm2)
      clear hm2
      go_wp2_with fail
      (with_reducible refine (AW.out _).mono ?_)
      rintro e w3 ⟨rfl, hm3⟩
      have HM3 := Lib.hid (HM2.out.trans0 hm3)
      clear hm3
      go_wp2_with fail
      go_ret
      exact ⟨rfl, HM3.out.below0⟩
    · have O := Lib.hid (fun t v w h => open_calls t v [] id w h (by simp) (up_of (by decide +kernel)))
      rw [open1 id (by omega) (by omega)] at O
      dsimp only at O
      have K := Lib.hid (fun (s x : Int) t v w h => take_calls t v [(id, s)] id x w h (by simp) (up_one _))
      have HC := Lib.hid hcase
      have HX := Lib.hid hx
      have hl' : (xs.length : Int) ≤ 140737488351232 := by omega
      clear hcase hx hid
      go_enter Try.func6, Try.ntmps6
      go_wp2_with fail
      (with_reducible refine (NW.out _).mono ?_)
      rintro e w1 ⟨rfl, hw1⟩
      rw [← hw1] at NT HM0
      clear hw1
      go_wp2_with fail
      (with_reducible refine (AW.out _).mono ?_)
      rintro e w2 ⟨rfl, hm2⟩
      have HM2 := Lib.hid (HM0.out.trans0 hm2)
      have HT2 := Lib.hid (NT.out.mod hm2 (by simp) (by simp))
      clear hm2 NT HM0
      go_wp2_with fail
      (with_reducible refine (O.out _ _ _ HT2.out).mono ?_)
      rintro e w3 ⟨rfl, h3⟩
      obtain ⟨v3, T3, M3⟩ := tab_step HM2.out (Nat.le_refl _) HT2.out h3
      have HT3 := Lib.hid T3
      have HM3 := Lib.hid M3
      clear h3 T3 M3 HT2 HM2
      go_wp2_with fail
      go_loopw [6, 7] (fun vn vi wr => ∃ i s : Nat, s ≤ i ∧ i ≤ 300 ∧ i ≤ xs.length ∧ vn = .int .i64 ((s : Int) + 1) ∧ vi = .int .i64 (i : Int) ∧ Mod w wr [] ∧ ∃ v, TabAt wr w.heap.size v [(id, (s : Int))]) (fun _ vi _ => 301 - (intOf vi).toNat)
      case atStart => exact ⟨0, 0, Nat.le_refl _, by omega, by omega, rfl, rfl, HM3.out, v3, HT3.out⟩
      case round =>
        obtain ⟨i, s, hsi, hi3, hil, rfl, rfl, hm, v, ht⟩ := hrel
        have HM := Lib.hid hm
        have HT := Lib.hid ht
        clear hm ht HM3 HT3
        by_cases hlt : i < xs.length
        · have hlt' : (i : Int) < xs.length := by omega
          by_cases h300 : i < 300
          · have h300' : (i : Int) < 300 := by omega
            obtain ⟨b, off, rfl, hc⟩ := HC.out.resolve_left (fun h => by rw [h] at hlt; simp at hlt)
            have c0 := keepC HM.out (hc i hlt)
            have hxr := HX.out _ (List.getElem_mem hlt)
            have hcK := hc i hlt
            have HK := Lib.hid (fun w' (hm' : Mod w w' []) => keepC hm' hcK)
            clear hc hcK
            generalize xs[i]'hlt = x at *
            by_cases hxs : x = (s : Int) + 1
            · have hf := once_fresh id s (by omega) (by omega)
              have K1 := Lib.hid (K.out s x)
              rw [hxs, hf.1, hf.2] at K1
              dsimp only at K1
              subst hxs
              clear hf
              go_wp2_with fail
              (with_reducible refine (K1.out _ _ _ HT.out).mono ?_)
              rintro e w4 ⟨rfl, h4⟩
              obtain ⟨v4, T4, M4⟩ := tab_step HM.out (Nat.le_refl _) HT.out h4
              have HT4 := Lib.hid T4
              have HM4 := Lib.hid M4
              have c1 := HK.out _ M4
              clear h4 T4 M4 HT HM c0
              go_wp2_with fail
              go_roundw
              case rel => exact ⟨i + 1, s + 1, by omega, by omega, by omega, by go_num, by go_num, HM4.out, v4, by rw [Int.natCast_add]; exact HT4.out⟩
              case measure => simp [intOf]; omega
            · obtain ⟨E, hE⟩ : ∃ E, E = if numB x = false then (1 : Int) else if (s : Int) < x - 1 then 170 else 0 := ⟨_, rfl⟩
              have hf := once_skip id s x (by omega) (by omega) E hE hxs
              have K1 := Lib.hid (K.out s x)
              rw [hf.1, hf.2] at K1
              dsimp only at K1
              have hB : numB x = decide (1 ≤ x ∧ x ≤ 549755813888) := rfl
              have hcs : (x < 1 ∧ E = 1) ∨ (549755813888 < x ∧ E = 1) ∨ (1 ≤ x ∧ (s : Int) + 1 < x ∧ E = 170) ∨ (1 ≤ x ∧ x ≤ (s : Int) ∧ E = 0) := by
                rw [hB] at hE
                by_cases h1 : x < 1
                · left; exact ⟨h1, by rw [hE, if_pos (decide_eq_false (by omega))]⟩
                · by_cases h2 : 549755813888 < x
                  · right; left; exact ⟨h2, by rw [hE, if_pos (decide_eq_false (by omega))]⟩
                  · rw [if_neg (by simp; omega)] at hE
                    by_cases h3 : (s : Int) < x - 1
                    · right; right; left; exact ⟨by omega, by omega, by rw [hE, if_pos h3]⟩
                    · right; right; right; exact ⟨by omega, by omega, by rw [hE, if_neg h3]⟩
              clear hE hB hf
              rcases hcs with ⟨k1, rfl⟩ | ⟨k1, rfl⟩ | ⟨k1, k2, rfl⟩ | ⟨k1, k2, rfl⟩
              · have k3 : ¬ ((s : Int) + 1 = x) := by omega
                have k4 : (s : Int) ≤ 300 := by omega
                have kd0 : decide (1 ≤ x) = false := decide_eq_false (by omega)
                go_wp2_with fail
                (with_reducible refine (K1.out _ _ _ HT.out).mono ?_)
                rintro e w4 ⟨rfl, h4⟩
                obtain ⟨v4, T4, M4⟩ := tab_step HM.out (Nat.le_refl _) HT.out h4
                have HT4 := Lib.hid T4
                have HM4 := Lib.hid M4
                have c1 := HK.out _ M4
                clear h4 T4 M4 HT HM c0
                go_wp2_with fail
                go_roundw
                case rel => exact ⟨i + 1, s, by omega, by omega, by omega, rfl, by go_num, HM4.out, v4, HT4.out⟩
                case measure => simp [intOf]; omega
              · have k3 : ¬ ((s : Int) + 1 = x) := by omega
                have k4 : (s : Int) ≤ 300 := by omega
                have kd0 : decide (1 ≤ x) = true := decide_eq_true (by omega)
                have kd1 : decide (x ≤ (s : Int) + 1) = false := decide_eq_false (by omega)
                go_wp2_with fail
                (with_reducible refine (K1.out _ _ _ HT.out).mono ?_)
                rintro e w4 ⟨rfl, h4⟩
                obtain ⟨v4, T4, M4⟩ := tab_step HM.out (Nat.le_refl _) HT.out h4
                have HT4 := Lib.hid T4
                have HM4 := Lib.hid M4
                have c1 := HK.out _ M4
                clear h4 T4 M4 HT HM c0
                go_wp2_with fail
                go_roundw
                case rel => exact ⟨i + 1, s, by omega, by omega, by omega, rfl, by go_num, HM4.out, v4, HT4.out⟩
                case measure => simp [intOf]; omega
              · have k3 : ¬ ((s : Int) + 1 = x) := by omega
                have k4 : (s : Int) ≤ 300 := by omega
                have kd0 : decide (1 ≤ x) = true := decide_eq_true (by omega)
                have kd1 : decide (x ≤ (s : Int) + 1) = false := decide_eq_false (by omega)
                go_wp2_with fail
                (with_reducible refine (K1.out _ _ _ HT.out).mono ?_)
                rintro e w4 ⟨rfl, h4⟩
                obtain ⟨v4, T4, M4⟩ := tab_step HM.out (Nat.le_refl _) HT.out h4
                have HT4 := Lib.hid T4
                have HM4 := Lib.hid M4
                have c1 := HK.out _ M4
                clear h4 T4 M4 HT HM c0
                go_wp2_with fail
                go_roundw
                case rel => exact ⟨i + 1, s, by omega, by omega, by omega, rfl, by go_num, HM4.out, v4, HT4.out⟩
                case measure => simp [intOf]; omega
              · have k3 : ¬ ((s : Int) + 1 = x) := by omega
                have k4 : (s : Int) ≤ 300 := by omega
                have kd0 : decide (1 ≤ x) = true := decide_eq_true (by omega)
                have kd1 : decide (x ≤ (s : Int) + 1) = true := decide_eq_true (by omega)
                go_wp2_with fail
                (with_reducible refine (K1.out _ _ _ HT.out).mono ?_)
                rintro e w4 ⟨rfl, h4⟩
                obtain ⟨v4, T4, M4⟩ := tab_step HM.out (Nat.le_refl _) HT.out h4
                have HT4 := Lib.hid T4
                have HM4 := Lib.hid M4
                have c1 := HK.out _ M4
                clear h4 T4 M4 HT HM c0
                go_wp2_with fail
                go_roundw
                case rel => exact ⟨i + 1, s, by omega, by omega, by omega, rfl, by go_num, HM4.out, v4, HT4.out⟩
                case measure => simp [intOf]; omega
          · have h300' : (300 : Int) ≤ i := by omega
            go_wp2_with fail
            go_ret
            exact ⟨rfl, HM.out.below0⟩
        · have hge : (xs.length : Int) ≤ i := by omega
          go_wp2_with fail
          go_ret
          exact ⟨rfl, HM.out.below0⟩
end Go.Proofs.Ytcbafomhifdgpaa.Ss
end

section
/- slices.Delete at []api.Session: one session taken out. -/
namespace Go.Proofs.Ytcbafomhifdgpaa.Si
open Go.RowKit Mem
set_option linter.unusedSimpArgs false
set_option linter.unusedVariables false
set_option maxRecDepth 100000

/-- 'append' as one step of a region that draws, its run known by an equation. -/
theorem step_append_runI {P : Program} {ops : Array Oper} {o : Oper} {a : Act} {w : World} {K : Act → World → Prop} {Q : Exit → Act → World → Prop} {E : Prop}
    (hg : o.guard = none) (d x : Operand) (dT sT : TypeId) (hop : o.op = Op.call { callee := Callee.builtin Builtin.append, args := #[d, x], argTypes := #[dT, sT] })
    (v u : Value) (hd : a.eval d = v) (hx : a.eval x = u) {v' : Value} {w' : World} (hr : (Builtin.append_ #[dT, sT] o.type #[v, u]).run P w = .ok v' w') (hK : K (a.put o.dst v') w') :
    if Region.wanted o (yielded ops a.tmps) = true then Oper.wp P o a w K Q else E := by
  have hw : Region.wanted o (yielded ops a.tmps) = true := by simp [Region.wanted, hg]
  rw [if_pos hw]
  unfold Oper.wp
  simp [execOp, hop, resolve, invoke, builtin, hd, hx, hr, Result.andThen]
  exact hK

theorem run_clear_row {P : Program} (w : World) (dT ty elem : TypeId) (z : Value) (g o n cap : Nat) (cs : List Value) (cur : Array Value) (t : TypeId)
    (hu : P.underlying dT = some (.slice elem)) (hz : ∀ w, (zeroValue elem).run P w = .ok z w) (hn : 0 < n) (hcs : (Builtin.zeroCells z.cells n).toList = cs) (hg : w.heap[g]? = some (.cells cur t (0, 0))) (hfit : o + cs.length ≤ cur.size) (h1 : ∀ v ∈ cs, v.oneCell' = true) :
    (Builtin.clear_ #[dT] ty #[.slice (some ⟨g, o, none⟩) n cap]).run P w = .ok (.tuple #[]) (w.setRow g (over cur o cs)) := by
  have hst := run_storeCells_at P g o t cs 0 cur w hg (by simpa using hfit) h1
  simp only [Nat.add_zero] at hst
  cases n with
  | zero => omega
  | succ n => simp [Builtin.clear_, run_underlying hu, hz, hcs, hst, over]

/-- What stood behind o + 2 moved onto o, the last two cells cleared. -/
theorem del_take (cur : Array Value) (xs z : List Value) (o k : Nat) (hk : o + k ≤ xs.length) (hx : cur.toList.take xs.length = xs) (hs : xs.length ≤ cur.size) (hz : z.length = k) :
    (over (over cur o (xs.drop (o + k))) (xs.length - k) z).toList.take (xs.length - k) = xs.take o ++ xs.drop (o + k) := by
  have hx' : ∀ j, j < xs.length → cur[j]? = xs[j]? := fun j hj => by
    rw [← hx, List.getElem?_take, if_pos (by simpa using hj)]
    simp
  have hd : (xs.drop (o + k)).length = xs.length - (o + k) := by simp
  have ht : (xs.take o).length = o := by simp; omega
  have hz1 := over_size cur o (xs.drop (o + k)) (by omega)
  apply List.ext_getElem?
  intro j
  rw [List.getElem?_take, Array.getElem?_toList, over_get _ _ _ (by omega), over_get _ _ _ (by omega)]
  by_cases h1 : j < xs.length - k
  · rw [if_pos h1, if_neg (by omega)]
    by_cases h2 : j < o
    · rw [if_neg (by omega), hx' j (by omega), List.getElem?_append_left (by omega), List.getElem?_take, if_pos h2]
    · rw [if_pos (by omega), List.getElem?_append_right (by omega), ht]
  · rw [if_neg h1, List.getElem?_eq_none (by simp; omega)]

def DelP (base : Nat) (v : Value) (n i : Nat) (xs : List Value) (w : World) (E : Ending) (w' : World) : Prop :=
  ∃ v', E = .returned v' ∧ w'.ownsRow base 107 2 v' (n - 1) (xs.take (i * 2) ++ xs.drop ((i + 1) * 2)) ∧ w.grownBy w' v.ownBlock ∧ v'.ownBlock = v.ownBlock

set_option maxHeartbeats 4000000 in
theorem del_calls (base n i : Nat) (v : Value) (xs : List Value) (w : World) (hown : w.ownsRow base 107 2 v n xs) (hi : i < n) (hn : n ≤ 1000) (h1 : ∀ u ∈ xs, u.oneCell' = true) :
    Calls Try.prog 57 #[v, .int .i64 i, .int .i64 ((i : Int) + 1)] w (DelP base v n i xs w) := by
  obtain ⟨hxl, ⟨rfl, rfl⟩ | ⟨g, cap, cur, rfl, hb, hg, hnc, hcap, hcs, hx⟩⟩ := hown
  · omega
  · obtain ⟨i0, hi0, hz0, hz1, hz2⟩ := info_parts info_sess
    have hzv : ∀ w, (zeroValue 107).run Try.prog w = .ok (.agg #[.int .i64 0, .int .i64 0]) w := fun w => by simp [zeroValue, typeInfo, hi0, hz0]
    have hdl : (xs.drop ((i + 1) * 2)).length = (n - (i + 1)) * 2 := by rw [List.length_drop, hxl]; omega
    have hgB : Blk w g cur 107 := hg
    have hcell : ∀ j u, xs[j]? = some u → w.cell? ⟨g, j, none⟩ = some u := fun j u hj => by
      rw [hgB.cell, ← hj, ← hx, List.getElem?_take]
      split
      · simp
      · rename_i hlt
        rw [List.getElem?_eq_none (by omega)] at hj
        cases hj
    obtain ⟨A, hA, hsrc⟩ : ∃ A : Addr, (if cap = i + 1 then (⟨g, 0, none⟩ : Addr) else ⟨g, (i + 1) * 2, none⟩) = A ∧ ∀ j u, (xs.drop ((i + 1) * 2))[j]? = some u → w.drew.cell? (A.add j) = some u := by
      by_cases h : cap = i + 1
      · refine ⟨⟨g, 0, none⟩, by simp [h], fun j u hu => ?_⟩
        have := (List.getElem?_eq_some_iff.1 hu).1
        omega
      · refine ⟨⟨g, (i + 1) * 2, none⟩, by simp [h], fun j u hu => ?_⟩
        rw [Addr.add_lit]
        exact hcell _ u (by rwa [List.getElem?_drop] at hu)
    obtain ⟨W1, hW1⟩ : ∃ W1, W1 = w.drew.setRow g (over cur (i * 2) (xs.drop ((i + 1) * 2))) := ⟨_, rfl⟩
    have hap : ∀ ty c, (Builtin.append_ #[57, 57] ty #[.slice (some ⟨g, 0, none⟩) i cap, .slice (some A) (n - (i + 1)) c]).run Try.prog w.drew = .ok (.slice (some ⟨g, 0, none⟩) (i + (n - (i + 1))) cap) W1 := fun ty c => by
      have h := run_append_room (P := Try.prog) w.drew 57 ty 107 i0 Try.underlying57 hi0 g i cap cur hg A (n - (i + 1)) c (xs.drop ((i + 1) * 2)) (by rw [hdl, hz1]) hsrc (fun u hu => h1 u (List.mem_of_mem_drop hu)) (by omega) (by rw [hz1, hdl]; omega)
      rw [hz1] at h
      rw [h, hW1]
      rfl
    have hos := over_size cur (i * 2) (xs.drop ((i + 1) * 2)) (by rw [hdl]; omega)
    have hW1g : W1.heap[g]? = some (.cells (over cur (i * 2) (xs.drop ((i + 1) * 2))) 107 (0, 0)) := by rw [hW1]; exact setRow_heap w.drew g cur _ _ _ hg
    have hcl : ∀ ty c, (Builtin.clear_ #[57] ty #[.slice (some ⟨g, (i + (n - (i + 1))) * 2, none⟩) (n - (i + (n - (i + 1)))) c]).run Try.prog W1 = .ok (.tuple #[]) (W1.setRow g (over (over cur (i * 2) (xs.drop ((i + 1) * 2))) ((i + (n - (i + 1))) * 2) [.int .i64 0, .int .i64 0])) := fun ty c => by
      have e1 : n - (i + (n - (i + 1))) = 1 := by omega
      rw [e1]
      exact run_clear_row W1 _ ty 107 _ g _ 1 c [.int .i64 0, .int .i64 0] _ _ Try.underlying57 hzv (by omega) (by simp [Builtin.zeroCells, Value.cells]; rfl) hW1g (by rw [hos]; simp; omega) (by simp [Value.oneCell'])
    have hfin : DelP base (.slice (some ⟨g, 0, none⟩) n cap) n i xs w (.returned (.slice (some ⟨g, 0, none⟩) (i + (n - (i + 1))) cap)) (W1.setRow g (over (over cur (i * 2) (xs.drop ((i + 1) * 2))) ((i + (n - (i + 1))) * 2) [.int .i64 0, .int .i64 0])) := by
      have e1 : i + (n - (i + 1)) = n - 1 := by omega
      have h := del_take cur xs [.int .i64 0, .int .i64 0] (i * 2) 2 (by omega) (by rw [hxl]; exact hx) (by omega) rfl
      rw [show i * 2 + 2 = (i + 1) * 2 by omega, show xs.length - 2 = (n - 1) * 2 by omega] at h
      rw [e1]
      refine ⟨_, rfl, ⟨by simp [hxl]; omega, .inr ⟨g, cap, _, rfl, hb, setRow_heap W1 g _ _ _ _ hW1g, by omega, hcap, ?_, h⟩⟩, ?_, rfl⟩
      · rw [over_size _ _ _ (by rw [hos]; simp; omega), hos, hcs]
      · have hA : w.grownBy W1 (some g) := ⟨by rw [hW1]; rfl, by rw [hW1]; rfl, by rw [hW1]; rfl, by rw [hW1]; simp, fun k hk hn => by rw [hW1, setRow_other _ _ _ _ (fun e => hn (by rw [e]))]; rfl⟩
        exact Grown.trans hA (grown_setRow W1 g _)
    have HF := Lib.hid hfin
    have HAP := Lib.hid hap
    have HCL := Lib.hid hcl
    have hb1 : (0 : Int) ≤ (i : Int) + 1 := by omega
    have htn : ((i : Int) + 1).toNat = i + 1 := by omega
    have hb3 : (i : Int) + 1 ≤ (n : Int) := by omega
    have hb5 : i ≤ cap := by omega
    have hb6 : i + 1 ≤ cap := by omega
    have hb7 : i + 1 ≤ n := by omega
    have hb8 : ¬ (cap = i + (n - (i + 1))) := by omega
    have hb9 : i + (n - (i + 1)) ≤ n := by omega
    have hb10 : n ≤ cap := hnc
    have hb11 : (i : Int) ≤ (i : Int) + 1 := by omega
    have hb12 : (i : Int) ≤ (cap : Int) := by omega
    have hb13 : (i : Int) + 1 ≤ (cap : Int) := by omega
    have hc63 : cap ≤ 9223372036854775807 := by unfold maxLen at hcap; omega
    have hq : ¬ ((i : Int) = (i : Int) + 1) := by omega
    have mixed : Try.prog.follows .mixedOrders = true := by kernel_rfl
    clear hfin hap hcl hcell hW1g hW1 hsrc hx hcs hxl hg hgB h1 hdl hos
    have hap' := HAP.out
    have hcl' := HCL.out
    by_cases hci : cap = i + 1
    · rw [if_pos hci] at hA
      subst hA
      have e0 : n - (i + 1) = 0 := by omega
      have e1 : n = i + 1 := by omega
      rw [e0, Nat.add_zero] at HAP HCL HF
      clear hap' hcl'
      subst hci
      subst e1
      have e2 : i + 1 - i = 1 := by omega
      rw [e2] at HCL
      clear e0 e2
      have hap' := HAP.out
      have hcl' := HCL.out
      have hb14 : ¬ (i + 1 = i) := by omega
      go_enter Try.func57, Try.ntmps57
      go_wp2_with fail
      go_region_law_o (refine step_append_runI rfl _ _ 57 57 rfl (.slice (some ⟨g, 0, none⟩) i (i + 1)) (.slice (some ⟨g, 0, none⟩) 0 0) (by simp [Act.eval, Act.put]) (by simp [Act.eval, Act.put]) (hap' _ _) ?_)
      go_wp2
      go_ret
      exact HF.out
    · rw [if_neg hci] at hA
      subst hA
      go_enter Try.func57, Try.ntmps57
      go_wp2_with fail
      go_region_law_o (refine step_append_runI rfl _ _ 57 57 rfl (.slice (some ⟨g, 0, none⟩) i cap) (.slice (some ⟨g, (i + 1) * 2, none⟩) (n - (i + 1)) (cap - (i + 1))) (by simp [Act.eval, Act.put]) (by simp [Act.eval, Act.put]) (hap' _ _) ?_)
      go_wp2
      go_ret
      exact HF.out
end Go.Proofs.Ytcbafomhifdgpaa.Si
end
