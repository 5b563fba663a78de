/- slices.Delete at []api.Session: one session taken out. -/
import Derived.Test.YtcbafomhifdgpaaSi4
namespace Go.Proofs.Ytcbafomhifdgpaa.Si
open Go.RowKit Mem
set_option linter.unusedSimpArgs false
set_option linter.unusedVariables false
set_option maxRecDepth 100000

/-- 'append' as one step of a region that draws, its run known by an equation. -/
theorem step_append_runI {P : Program} {ops : Array Oper} {o : Oper} {a : Act} {w : World} {K : Act → World → Prop} {Q : Exit → Act → World → Prop} {E : Prop}
    (hg : o.guard = none) (d x : Operand) (dT sT : TypeId) (hop : o.op = Op.call { callee := Callee.builtin Builtin.append, args := #[d, x], argTypes := #[dT, sT] })
    (v u : Value) (hd : a.eval d = v) (hx : a.eval x = u) {v' : Value} {w' : World} (hr : (Builtin.append_ #[dT, sT] o.type #[v, u]).run P w = .ok v' w') (hK : K (a.put o.dst v') w') :
    if Region.wanted o (yielded ops a.tmps) = true then Oper.wp P o a w K Q else E := by
  have hw : Region.wanted o (yielded ops a.tmps) = true := by simp [Region.wanted, hg]
  rw [if_pos hw]
  unfold Oper.wp
  simp [execOp, hop, resolve, invoke, builtin, hd, hx, hr, Result.andThen]
  exact hK

theorem run_clear_row {P : Program} (w : World) (dT ty elem : TypeId) (z : Value) (g o n cap : Nat) (cs : List Value) (cur : Array Value) (t : TypeId)
    (hu : P.underlying dT = some (.slice elem)) (hz : ∀ w, (zeroValue elem).run P w = .ok z w) (hn : 0 < n) (hcs : (Builtin.zeroCells z.cells n).toList = cs) (hg : w.heap[g]? = some (.cells cur t (0, 0))) (hfit : o + cs.length ≤ cur.size) (h1 : ∀ v ∈ cs, v.oneCell' = true) :
    (Builtin.clear_ #[dT] ty #[.slice (some ⟨g, o, none⟩) n cap]).run P w = .ok (.tuple #[]) (w.setRow g (over cur o cs)) := by
  have hst := run_storeCells_at P g o t cs 0 cur w hg (by simpa using hfit) h1
  simp only [Nat.add_zero] at hst
  cases n with
  | zero => omega
  | succ n => simp [Builtin.clear_, run_underlying hu, hz, hcs, hst, over]

/-- What stood behind o + 2 moved onto o, the last two cells cleared. -/
theorem del_take (cur : Array Value) (xs z : List Value) (o k : Nat) (hk : o + k ≤ xs.length) (hx : cur.toList.take xs.length = xs) (hs : xs.length ≤ cur.size) (hz : z.length = k) :
    (over (over cur o (xs.drop (o + k))) (xs.length - k) z).toList.take (xs.length - k) = xs.take o ++ xs.drop (o + k) := by
  have hx' : ∀ j, j < xs.length → cur[j]? = xs[j]? := fun j hj => by
    rw [← hx, List.getElem?_take, if_pos (by simpa using hj)]
    simp
  have hd : (xs.drop (o + k)).length = xs.length - (o + k) := by simp
  have ht : (xs.take o).length = o := by simp; omega
  have hz1 := over_size cur o (xs.drop (o + k)) (by omega)
  apply List.ext_getElem?
  intro j
  rw [List.getElem?_take, Array.getElem?_toList, over_get _ _ _ (by omega), over_get _ _ _ (by omega)]
  by_cases h1 : j < xs.length - k
  · rw [if_pos h1, if_neg (by omega)]
    by_cases h2 : j < o
    · rw [if_neg (by omega), hx' j (by omega), List.getElem?_append_left (by omega), List.getElem?_take, if_pos h2]
    · rw [if_pos (by omega), List.getElem?_append_right (by omega), ht]
  · rw [if_neg h1, List.getElem?_eq_none (by simp; omega)]

def DelP (base : Nat) (v : Value) (n i : Nat) (xs : List Value) (w : World) (E : Ending) (w' : World) : Prop :=
  ∃ v', E = .returned v' ∧ w'.ownsRow base 107 2 v' (n - 1) (xs.take (i * 2) ++ xs.drop ((i + 1) * 2)) ∧ w.grownBy w' v.ownBlock ∧ v'.ownBlock = v.ownBlock

set_option maxHeartbeats 4000000 in
theorem del_calls (base n i : Nat) (v : Value) (xs : List Value) (w : World) (hown : w.ownsRow base 107 2 v n xs) (hi : i < n) (hn : n ≤ 1000) (h1 : ∀ u ∈ xs, u.oneCell' = true) :
    Calls Try.prog 57 #[v, .int .i64 i, .int .i64 ((i : Int) + 1)] w (DelP base v n i xs w) := by
  obtain ⟨hxl, ⟨rfl, rfl⟩ | ⟨g, cap, cur, rfl, hb, hg, hnc, hcap, hcs, hx⟩⟩ := hown
  · omega
  · obtain ⟨i0, hi0, hz0, hz1, hz2⟩ := info_parts info_sess
    have hzv : ∀ w, (zeroValue 107).run Try.prog w = .ok (.agg #[.int .i64 0, .int .i64 0]) w := fun w => by simp [zeroValue, typeInfo, hi0, hz0]
    have hdl : (xs.drop ((i + 1) * 2)).length = (n - (i + 1)) * 2 := by rw [List.length_drop, hxl]; omega
    have hgB : Blk w g cur 107 := hg
    have hcell : ∀ j u, xs[j]? = some u → w.cell? ⟨g, j, none⟩ = some u := fun j u hj => by
      rw [hgB.cell, ← hj, ← hx, List.getElem?_take]
      split
      · simp
      · rename_i hlt
        rw [List.getElem?_eq_none (by omega)] at hj
        cases hj
    obtain ⟨A, hA, hsrc⟩ : ∃ A : Addr, (if cap = i + 1 then (⟨g, 0, none⟩ : Addr) else ⟨g, (i + 1) * 2, none⟩) = A ∧ ∀ j u, (xs.drop ((i + 1) * 2))[j]? = some u → w.drew.cell? (A.add j) = some u := by
      by_cases h : cap = i + 1
      · refine ⟨⟨g, 0, none⟩, by simp [h], fun j u hu => ?_⟩
        have := (List.getElem?_eq_some_iff.1 hu).1
        omega
      · refine ⟨⟨g, (i + 1) * 2, none⟩, by simp [h], fun j u hu => ?_⟩
        rw [Addr.add_lit]
        exact hcell _ u (by rwa [List.getElem?_drop] at hu)
    obtain ⟨W1, hW1⟩ : ∃ W1, W1 = w.drew.setRow g (over cur (i * 2) (xs.drop ((i + 1) * 2))) := ⟨_, rfl⟩
    have hap : ∀ ty c, (Builtin.append_ #[57, 57] ty #[.slice (some ⟨g, 0, none⟩) i cap, .slice (some A) (n - (i + 1)) c]).run Try.prog w.drew = .ok (.slice (some ⟨g, 0, none⟩) (i + (n - (i + 1))) cap) W1 := fun ty c => by
      have h := run_append_room (P := Try.prog) w.drew 57 ty 107 i0 Try.underlying57 hi0 g i cap cur hg A (n - (i + 1)) c (xs.drop ((i + 1) * 2)) (by rw [hdl, hz1]) hsrc (fun u hu => h1 u (List.mem_of_mem_drop hu)) (by omega) (by rw [hz1, hdl]; omega)
      rw [hz1] at h
      rw [h, hW1]
      rfl
    have hos := over_size cur (i * 2) (xs.drop ((i + 1) * 2)) (by rw [hdl]; omega)
    have hW1g : W1.heap[g]? = some (.cells (over cur (i * 2) (xs.drop ((i + 1) * 2))) 107 (0, 0)) := by rw [hW1]; exact setRow_heap w.drew g cur _ _ _ hg
    have hcl : ∀ ty c, (Builtin.clear_ #[57] ty #[.slice (some ⟨g, (i + (n - (i + 1))) * 2, none⟩) (n - (i + (n - (i + 1)))) c]).run Try.prog W1 = .ok (.tuple #[]) (W1.setRow g (over (over cur (i * 2) (xs.drop ((i + 1) * 2))) ((i + (n - (i + 1))) * 2) [.int .i64 0, .int .i64 0])) := fun ty c => by
      have e1 : n - (i + (n - (i + 1))) = 1 := by omega
      rw [e1]
      exact run_clear_row W1 _ ty 107 _ g _ 1 c [.int .i64 0, .int .i64 0] _ _ Try.underlying57 hzv (by omega) (by simp [Builtin.zeroCells, Value.cells]; rfl) hW1g (by rw [hos]; simp; omega) (by simp [Value.oneCell'])
    have hfin : DelP base (.slice (some ⟨g, 0, none⟩) n cap) n i xs w (.returned (.slice (some ⟨g, 0, none⟩) (i + (n - (i + 1))) cap)) (W1.setRow g (over (over cur (i * 2) (xs.drop ((i + 1) * 2))) ((i + (n - (i + 1))) * 2) [.int .i64 0, .int .i64 0])) := by
      have e1 : i + (n - (i + 1)) = n - 1 := by omega
      have h := del_take cur xs [.int .i64 0, .int .i64 0] (i * 2) 2 (by omega) (by rw [hxl]; exact hx) (by omega) rfl
      rw [show i * 2 + 2 = (i + 1) * 2 by omega, show xs.length - 2 = (n - 1) * 2 by omega] at h
      rw [e1]
      refine ⟨_, rfl, ⟨by simp [hxl]; omega, .inr ⟨g, cap, _, rfl, hb, setRow_heap W1 g _ _ _ _ hW1g, by omega, hcap, ?_, h⟩⟩, ?_, rfl⟩
      · rw [over_size _ _ _ (by rw [hos]; simp; omega), hos, hcs]
      · have hA : w.grownBy W1 (some g) := ⟨by rw [hW1]; rfl, by rw [hW1]; rfl, by rw [hW1]; rfl, by rw [hW1]; simp, fun k hk hn => by rw [hW1, setRow_other _ _ _ _ (fun e => hn (by rw [e]))]; rfl⟩
        exact Grown.trans hA (grown_setRow W1 g _)
    have HF := Lib.hid hfin
    have HAP := Lib.hid hap
    have HCL := Lib.hid hcl
    have hb1 : (0 : Int) ≤ (i : Int) + 1 := by omega
    have htn : ((i : Int) + 1).toNat = i + 1 := by omega
    have hb3 : (i : Int) + 1 ≤ (n : Int) := by omega
    have hb5 : i ≤ cap := by omega
    have hb6 : i + 1 ≤ cap := by omega
    have hb7 : i + 1 ≤ n := by omega
    have hb8 : ¬ (cap = i + (n - (i + 1))) := by omega
    have hb9 : i + (n - (i + 1)) ≤ n := by omega
    have hb10 : n ≤ cap := hnc
    have hb11 : (i : Int) ≤ (i : Int) + 1 := by omega
    have hb12 : (i : Int) ≤ (cap : Int) := by omega
    have hb13 : (i : Int) + 1 ≤ (cap : Int) := by omega
    have hc63 : cap ≤ 9223372036854775807 := by unfold maxLen at hcap; omega
    have hq : ¬ ((i : Int) = (i : Int) + 1) := by omega
    have mixed : Try.prog.follows .mixedOrders = true := by kernel_rfl
    clear hfin hap hcl hcell hW1g hW1 hsrc hx hcs hxl hg hgB h1 hdl hos
    have hap' := HAP.out
    have hcl' := HCL.out
    by_cases hci : cap = i + 1
    · rw [if_pos hci] at hA
      subst hA
      have e0 : n - (i + 1) = 0 := by omega
      have e1 : n = i + 1 := by omega
      rw [e0, Nat.add_zero] at HAP HCL HF
      clear hap' hcl'
      subst hci
      subst e1
      have e2 : i + 1 - i = 1 := by omega
      rw [e2] at HCL
      clear e0 e2
      have hap' := HAP.out
      have hcl' := HCL.out
      have hb14 : ¬ (i + 1 = i) := by omega
      go_enter Try.func57, Try.ntmps57
      go_wp2_with fail
      go_region_law_o (refine step_append_runI rfl _ _ 57 57 rfl (.slice (some ⟨g, 0, none⟩) i (i + 1)) (.slice (some ⟨g, 0, none⟩) 0 0) (by simp [Act.eval, Act.put]) (by simp [Act.eval, Act.put]) (hap' _ _) ?_)
      go_wp2
      go_ret
      exact HF.out
    · rw [if_neg hci] at hA
      subst hA
      go_enter Try.func57, Try.ntmps57
      go_wp2_with fail
      go_region_law_o (refine step_append_runI rfl _ _ 57 57 rfl (.slice (some ⟨g, 0, none⟩) i cap) (.slice (some ⟨g, (i + 1) * 2, none⟩) (n - (i + 1)) (cap - (i + 1))) (by simp [Act.eval, Act.put]) (by simp [Act.eval, Act.put]) (hap' _ _) ?_)
      go_wp2
      go_ret
      exact HF.out
end Go.Proofs.Ytcbafomhifdgpaa.Si
