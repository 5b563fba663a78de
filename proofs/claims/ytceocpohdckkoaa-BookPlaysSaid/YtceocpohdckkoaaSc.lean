/- strings.Builder: the contracts of copyCheck, WriteString and String, with what they leave alone, what is no cells too. -/
import Derived.Test.YtceocpohdckkoaaMem
import Derived.Test.YtceocpohdckkoaaQuiet
import Derived.Test.YtceocpohdckkoaaBits1
import Derived.Laws.Externs
import Derived.Lib.Builder
import Derived.Lib.AppendStr
import Derived.Lib.UnsafeStr
import Derived.Lib.Strings
import Derived.Lib.Hide
import Derived.RegionTactic
import Derived.ChangeAlike
import Derived.RangeFuncOwn
namespace Go.Proofs.Ytceocpohdckkoaa.Sc
open Go.RowKit Mem
set_option linter.unusedSimpArgs false
set_option linter.unusedVariables false
set_option maxRecDepth 100000

abbrev tB : TypeId := 108
abbrev t8 : TypeId := 5
abbrev At (w : World) (B b : Nat) (bs : List Value) : Prop := Lib.IsBuilder tB t8 B b bs w

/-- Below B all is as it was; whole blocks that are no bytes too, but for block b. -/
structure Wr (B b : Nat) (w w' : World) : Prop where
  below : Below B w w'
  keep : ∀ k cs T, Blk w k cs T → T ≠ t8 → k ≠ b → Blk w' k cs T
  other : ∀ (k : Nat) (o : Obj), w.heap[k]? = some o → o.isCells = false → w'.heap[k]? = some o
theorem Wr.refl (B b : Nat) (w : World) : Wr B b w w := ⟨Below.refl _ _, fun _ _ _ h _ _ => h, fun _ _ h _ => h⟩
theorem Wr.trans {B b : Nat} {a c d : World} (h : Wr B b a c) (k : Wr B b c d) : Wr B b a d := ⟨h.below.trans k.below, fun i cs T hb ht hn => k.keep i cs T (h.keep i cs T hb ht hn) ht hn, fun i o hi ho => k.other i o (h.other i o hi ho) ho⟩
theorem Wr.mod {B b : Nat} {a c : World} (hB : B ≤ a.heap.size) (h : Mod a c []) : Wr B b a c := ⟨h.below hB (by simp), fun i cs T hb ht hn => hb.mod h (by simp), fun k o hk _ => (h.block k (Array.getElem?_eq_some_iff.1 hk).1 (by simp)).trans hk⟩

theorem set_other {w : World} {p : Addr} {cs : Array Value} {t : TypeId} {z : Nat × Nat} (hb : w.heap[p.block]? = some (.cells cs t z)) (y : Value) (k : Nat) (o : Obj) (hk : w.heap[k]? = some o) (ho : o.isCells = false) : (w.setCell p y).heap[k]? = some o := by
  rw [Below.heap_setCell _ _ _ _ (fun e => ?_)]
  · exact hk
  · rw [← e, hk] at hb
    injection hb with hb
    subst hb
    cases ho
theorem bld_mod {B b : Nat} {p : Value} {bs : List Value} {w w' : World} (h : Lib.BuilderAt tB t8 B b p bs w) (m : Mod w w' []) : Lib.BuilderAt tB t8 B b p bs w' := by
  obtain ⟨hB, v, hb, hown, hne⟩ := h
  have hb' : Blk w b #[p, v] tB := hb
  exact ⟨hB, v, hb'.mod m (by simp), own_mod hown m (by simp), hne⟩
theorem at_mod {B b : Nat} {bs : List Value} {w w' : World} (h : At w B b bs) (m : Mod w w' []) : At w' B b bs := h.elim (fun h => .inl (bld_mod h m)) (fun h => .inr (bld_mod h m))
theorem at_lt {B b : Nat} {bs : List Value} {w : World} (h : At w B b bs) : b < w.heap.size := h.elim (fun h => h.lt) (fun h => h.lt)
theorem info8 : (Try.prog.info? t8).map (fun i => (i.zero, i.size, i.bytes)) = some (some (.int .u8 0), 1, 1) := by kernel_rfl
theorem infoB : (Try.prog.info? tB).map (fun i => i.size) = some 2 := by kernel_rfl
theorem neB : tB ≠ t8 := by decide

theorem copyCheck_calls (B b : Nat) (bs : List Value) (w : World) (h : At w B b bs) :
    Calls Try.prog 72 #[.pointer (some ⟨b, 0, none⟩)] w fun e w' => e = .returned (.tuple #[]) ∧ Lib.BuilderAt tB t8 B b (.pointer (some ⟨b, 0, none⟩)) bs w' ∧ Wr B b w w' := by
  obtain ⟨j, hj, hjs⟩ := Option.map_eq_some_iff.1 infoB
  rcases h with h | h
  · have h0 := h.cell0
    have hsh := h.shape
    have hfz := h.frozen0
    have HH := Lib.hid h
    clear h
    go_enter Try.func72, Try.ntmps72
    go_wp2
    rw [Lib.run_to_unsafe w ⟨b, 0, none⟩ Try.underlying105 Try.underlying151 hj (by rw [hjs]; decide) hsh (Nat.zero_lt_succ 1)]
    simp only [Result.andThen]
    rw [Oper.upon_value]
    go_wp2
    rw [run_callFunc_extern Try.func80 (by kernel_rfl) (by kernel_rfl) (by kernel_rfl) (e := Extern.AbiNoEscape.same) (by kernel_rfl)]
    rw [Lib.run_noEscape]
    simp only [Result.andThen]
    rw [Oper.upon_value]
    go_wp2
    rw [Lib.run_from_unsafe w ⟨b, 0, none⟩ Try.underlying151 Try.underlying105 hj hsh (by kernel_rfl)]
    simp only [Result.andThen]
    rw [Oper.upon_value]
    go_wp2
    go_end0
    exact ⟨rfl, HH.out.used _, (Below.refl B w).setCell (p := ⟨b, 0, none⟩) HH.out.1 _, fun k cs T hb ht hn => hb.far (p := ⟨b, 0, none⟩) hn _, fun k o hk ho => by obtain ⟨_, v, hb, _⟩ := HH.out; exact set_other (p := ⟨b, 0, none⟩) hb _ k o hk ho⟩
  · have h0 := h.cell0
    have HH := Lib.hid h
    clear h
    go_enter Try.func72, Try.ntmps72
    go_wp2
    rw [Lib.run_neq_ptr_same w _ Try.underlying105 hj]
    go_wp2
    go_end0
    exact ⟨rfl, HH.out, Wr.refl _ _ _⟩
set_option maxHeartbeats 2000000 in
theorem write_calls (B b : Nat) (bs : List Value) (s : ByteArray) (w : World) (h : At w B b bs) (hlen : bs.length + s.size ≤ 140737488355328) (hBw : B ≤ w.heap.size) :
    Calls Try.prog 52 #[.pointer (some ⟨b, 0, none⟩), .string s] w fun e w' => e = .returned (.tuple #[.int .i64 s.size, .nilIface]) ∧ At w' B b (bs ++ Lib.strCells s) ∧ Wr B b w w' := by
  obtain ⟨i0, hi, hz0, hz1, hz2⟩ := info_parts info8
  have CC := Lib.hid (copyCheck_calls B b bs w h)
  clear h
  go_enter Try.func52, Try.ntmps52
  go_wp2_with fail
  refine CC.out.mono ?_
  rintro e w1 ⟨rfl, h1, hw1⟩
  obtain ⟨hB, v, hbk, hown, hne⟩ := h1
  have c0 : w1.cell? ⟨b, 0, none⟩ = some (.pointer (some ⟨b, 0, none⟩)) := by rw [Lib.cell_of_heap hbk]; rfl
  have c1 : w1.cell? ⟨b, 1, none⟩ = some v := by rw [Lib.cell_of_heap hbk]; rfl
  have hs1 := hw1.below.size
  go_wp2_with (at_builtin; refine Lib.wpList_append_own_string _ rfl _ _ 106 9 rfl B t8 i0 Try.underlying106 Try.underlying9 hi hz0 hz1 hz2 _ _ _ rfl hown s rfl ?c3 ?c4 ?c5 ?_)
  case c3 => unfold maxLen; omega
  case c4 => omega
  case c5 => omega
  intro v' w2 hown' hgrow _
  have hlt : b < w1.heap.size := by
    rcases Nat.lt_or_ge b w1.heap.size with h' | h'
    · exact h'
    · simp [Array.getElem?_eq_none h'] at hbk
  have hb2 : w2.heap[b]? = some (.cells #[.pointer (some ⟨b, 0, none⟩), v] tB (0, 0)) := by
    rw [hgrow.block b hlt (fun e => hne e.symm)]
    exact hbk
  have d0 : w2.cell? ⟨b, 0, none⟩ = some (.pointer (some ⟨b, 0, none⟩)) := by rw [Lib.cell_of_heap hb2]; rfl
  have d1 : w2.cell? ⟨b, 1, none⟩ = some v := by rw [Lib.cell_of_heap hb2]; rfl
  have f1 : w2.frozen? ⟨b, 1, none⟩ = false := Lib.frozen_of_heap hb2 1
  obtain ⟨ao, n', cap, rfl⟩ : ∃ ao n' cap, v' = .slice ao n' cap := by
    rcases hown'.2 with ⟨hv, _⟩ | ⟨g, cap, cur, hv, _⟩
    · exact ⟨_, _, _, hv⟩
    · exact ⟨_, _, _, hv⟩
  have HW1 := Lib.hid hw1
  have HG := Lib.hid hgrow
  have HO := Lib.hid hown
  have HO' := Lib.hid hown'
  have HB2 := Lib.hid hb2
  clear hw1 hgrow hown hown' hb2 hbk
  go_wp2
  go_ret2
  refine ⟨rfl, .inr (Lib.BuilderAt.put (T := tB) (e := t8) hB HB2.out (bs' := bs ++ Lib.strCells s) (by simpa [Lib.strCells_length] using HO'.out) neB), ?_, ?_, ?_⟩
  · exact (HW1.out.below.grown HG.out (by omega) (fun k hk => (HO.out.lt k hk).1)).setCell (p := ⟨b, 1, none⟩) hB _
  · intro k cs T hb ht hn
    have hb1 := HW1.out.keep k cs T hb ht hn
    refine Blk.far (p := ⟨b, 1, none⟩) ?_ hn _
    have hlk := hb1.lt
    unfold Blk at *
    rw [HG.out.block k hlk (fun e => Lib.ownBlock_ne HO.out hb1 ht e.symm)]
    exact hb1
  · intro k o hk ho
    have hk1 := HW1.out.other k o hk ho
    refine set_other (p := ⟨b, 1, none⟩) HB2.out _ k o ?_ ho
    rw [HG.out.block k (Array.getElem?_eq_some_iff.1 hk1).1 (fun e => ?_)]
    · exact hk1
    · obtain ⟨_, ⟨rfl, _⟩ | ⟨g, cap, cur, hv, _, hc, _⟩⟩ := HO.out
      · cases e
      · rw [hv] at e
        simp only [Value.ownBlock, Option.some.injEq] at e
        rw [← e, hk1] at hc
        injection hc with hc
        subst hc
        cases ho

theorem freeze_other {w : World} (p : Addr) (n k : Nat) (o : Obj) (hk : w.heap[k]? = some o) (ho : o.isCells = false) : (w.freeze p n).heap[k]? = some o := by
  unfold World.freeze
  split
  · exact hk
  · simp only [Array.getElem?_modify]
    split
    · rw [hk]
      cases o <;> first | rfl | cases ho
    · exact hk
set_option maxHeartbeats 2000000 in
theorem string_calls (B b : Nat) (l : List UInt8) (w : World) (h : At w B b (Lib.byteCells l)) (h0 : l ≠ []) :
    Calls Try.prog 54 #[.pointer (some ⟨b, 0, none⟩)] w fun e w' => e = .returned (.string ⟨l.toArray⟩) ∧ Below B w w' ∧ ∀ (k : Nat) (o : Obj), w.heap[k]? = some o → o.isCells = false → w'.heap[k]? = some o := by
  obtain ⟨p, hB, v, hbk, hown, hne⟩ : ∃ p, Lib.BuilderAt tB t8 B b p (Lib.byteCells l) w := by
    rcases h with h | h
    · exact ⟨_, h⟩
    · exact ⟨_, h⟩
  have hl0 : l.length ≠ 0 := by simpa using h0
  rw [Lib.byteCells_length] at hown
  obtain ⟨g, cap, cur, rfl, hbg, hg, hnc, hcm, hcs, htake⟩ : ∃ g cap cur, v = .slice (some ⟨g, 0, none⟩) l.length cap ∧ B ≤ g ∧ w.heap[g]? = some (.cells cur t8 (0, 0)) ∧ l.length ≤ cap ∧ cap ≤ maxLen ∧ cur.size = cap * 1 ∧ cur.toList.take (l.length * 1) = Lib.byteCells l := by
    rcases hown.2 with ⟨_, hz⟩ | ⟨g, cap, cur, hv, r⟩
    · exact absurd hz hl0
    · exact ⟨g, cap, cur, hv, r⟩
  have c1 : w.drew.cell? ⟨b, 1, none⟩ = some (.slice (some ⟨g, 0, none⟩) l.length cap) := by
    have : w.drew.heap[b]? = some (.cells #[p, .slice (some ⟨g, 0, none⟩) l.length cap] tB (0, 0)) := hbk
    rw [Lib.cell_of_heap this]; rfl
  have c2 : w.cell? ⟨b, 1, none⟩ = some (.slice (some ⟨g, 0, none⟩) l.length cap) := c1
  have hSD : (Builtin.unsafeSliceData_ #[106] 142 #[.slice (some ⟨g, 0, none⟩) l.length cap]).run Try.prog w.drew = .ok (.pointer (some ⟨g, 0, none⟩)) w.drew :=
    Lib.run_unsafeSliceData_row _ _ _ _ _ _ (by omega)
  have hUS : (Builtin.unsafeString_ #[142, 3] 9 #[.pointer (some ⟨g, 0, none⟩), .int .i64 l.length]).run Try.prog w.drew = .ok (.string ⟨l.toArray⟩) (w.drew.freeze ⟨g, 0, none⟩ l.length) := by
    refine Lib.run_unsafeString_row w.drew 142 3 9 t8 Try.underlying142 (by kernel_rfl) g cur.size (by have hg' : w.drew.heap[g]? = some (.cells cur t8 (0, 0)) := hg; simp [World.shape?, hg']) l h0 (by omega) (by unfold maxLen at hcm; omega) ?_
    intro j x hx
    have := hown.cells (g := g) rfl j (.int .u8 x.toNat) (by simp [Lib.byteCells, hx])
    exact this
  go_enter Try.func54, Try.ntmps54
  go_wp2
  go_region
  all_goals (go_wp2; go_ret; exact ⟨rfl, Lib.below_freeze (Below.drew (Below.refl B w)) (p := ⟨g, 0, none⟩) hbg _, fun k o hk ho => freeze_other _ _ k o hk ho⟩)

end Go.Proofs.Ytceocpohdckkoaa.Sc
