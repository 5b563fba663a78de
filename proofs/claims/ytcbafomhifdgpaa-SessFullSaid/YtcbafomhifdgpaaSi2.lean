/- slices.Insert at []api.Session, one session put in: the three roads. -/
import Derived.Test.YtcbafomhifdgpaaSi1
import Derived.Test.YtcbafomhifdgpaaSb
import Derived.Lib.Walk
import Derived.Lib.SliceRun
import Derived.Lib.JoinLaws
import Derived.Lib.AppendZeros
import Derived.Shelf.Spec.SlicesInsert
namespace Go.Proofs.Ytcbafomhifdgpaa.Si
open Go.RowKit Mem
set_option linter.unusedSimpArgs false
set_option linter.unusedVariables false
set_option maxRecDepth 100000

theorem info_sess : (Try.prog.info? 107).map (fun i => (i.zero, i.size, i.bytes)) = some (some (.agg #[.int .i64 0, .int .i64 0]), 2, 16) := by kernel_rfl

/-- What Insert leaves: a row that it may have made, else v's own; nothing else is touched. -/
def InsP (base : Nat) (v : Value) (n i : Nat) (xs r : List Value) (w : World) (E : Ending) (w' : World) : Prop :=
  ∃ v', E = .returned v' ∧ w'.ownsRow base 107 2 v' (n + 1) (put xs (i * 2) r) ∧ w.grownBy w' v.ownBlock ∧ ∀ k, v'.ownBlock = some k → v.ownBlock = some k ∨ w.heap.size ≤ k

set_option maxHeartbeats 4000000 in
theorem ins_room (base g cap n i vb : Nat) (cur : Array Value) (xs : List Value) (x y : Value) (w : World) (hb : base ≤ g) (hg : Blk w g cur 107) (hv : Blk w vb #[x, y] 107) (hne : vb ≠ g)
    (hi : i < n) (hroom : n + 1 ≤ cap) (hcap : cap ≤ maxLen) (hn : n ≤ 1000) (hcs : cur.size = cap * 2) (hxl : xs.length = n * 2) (hx : cur.toList.take (n * 2) = xs) (h1 : ∀ u ∈ xs, u.oneCell' = true) (hx1 : x.oneCell' = true) (hy1 : y.oneCell' = true) :
    Calls Try.prog 55 #[.slice (some ⟨g, 0, none⟩) n cap, .int .i64 i, .slice (some ⟨vb, 0, none⟩) 1 1] w
      (InsP base (.slice (some ⟨g, 0, none⟩) n cap) n i xs [x, y] w) := by
  obtain ⟨i0, hi0, hz0, hz1, hz2⟩ := info_parts info_sess
  have hsz : ∀ w, (Go.sizeOf 107).run Try.prog w = .ok 2 w := fun w => by simp [sizeOf, typeInfo, hi0, hz1]
  have hg' : w.heap[g]? = some (.cells cur 107 (0, 0)) := hg
  have hv' : w.heap[vb]? = some (.cells #[x, y] 107 (0, 0)) := hv
  have hov : ∀ lb cb, (callFunc 73 #[.slice (some ⟨vb, 0, none⟩) 1 1, .slice (some ⟨g, (i + 1) * 2, none⟩) lb cb]).run Try.prog w = .ok (.value (.bool false)) w := fun lb cb => by
    rw [run_callFunc_extern Try.func73 (by kernel_rfl) (by kernel_rfl) (by kernel_rfl) (e := Extern.SlicesOverlaps.overlaps #[57, 57] #[4]) (by kernel_rfl),
      Lib.run_overlaps_apart w 57 4 107 Try.underlying57 2 hsz ⟨vb, 0, none⟩ ⟨g, (i + 1) * 2, none⟩ 1 1 lb cb hne 107 107 2 cur.size (by simp [World.shape?, hv']) (by simp [World.shape?, hg']) (by omega) (by simp [World.frozen?, hv']) (by simp [World.frozen?, hv'])]
    rfl
  have hdl : (xs.drop (i * 2)).length = (n - i) * 2 := by rw [List.length_drop, hxl]; omega
  have hcell : ∀ j u, xs[j]? = some u → w.cell? ⟨g, j, none⟩ = some u := fun j u hj => by
    rw [hg.cell, ← hj, ← hx, List.getElem?_take]
    split
    · simp
    · rename_i hlt
      rw [List.getElem?_eq_none (by omega)] at hj
      cases hj
  have hcp1 : ∀ ty dc sc, (Builtin.copy_ #[57, 57] ty #[.slice (some ⟨g, (i + 1) * 2, none⟩) (n - i) dc, .slice (some ⟨g, i * 2, none⟩) (n + 1 - i) sc]).run Try.prog w.drew = .ok (goInt ((n - i : Nat) : Int)) (w.drew.setRow g (over cur ((i + 1) * 2) (xs.drop (i * 2)))) := fun ty dc sc =>
    run_copy_row w.drew _ _ ty 107 i0 g ((i + 1) * 2) (n - i) dc ⟨g, i * 2, none⟩ (n + 1 - i) sc (xs.drop (i * 2)) cur 107 Try.underlying57 hi0 (n - i) (by simp only [Nat.min_def]; split <;> omega) (by rw [hdl, hz1])
      (fun j u hj => by rw [Addr.add_lit]; exact hcell (i * 2 + j) u (by rwa [List.getElem?_drop] at hj)) hg' (by rw [hdl]; omega) (fun u hu => h1 u (List.mem_of_mem_drop hu))
  obtain ⟨W1, hW1⟩ : ∃ W1, W1 = w.drew.setRow g (over cur ((i + 1) * 2) (xs.drop (i * 2))) := ⟨_, rfl⟩
  have hW1g : W1.heap[g]? = some (.cells (over cur ((i + 1) * 2) (xs.drop (i * 2))) 107 (0, 0)) := by rw [hW1]; exact setRow_heap w.drew g cur _ _ _ hg'
  have hW1v : W1.heap[vb]? = some (.cells #[x, y] 107 (0, 0)) := by rw [hW1, setRow_other w.drew g vb _ hne]; exact hv'
  have hcp2 : ∀ (W : World), W.heap = W1.heap → ∀ ty dc, (Builtin.copy_ #[57, 57] ty #[.slice (some ⟨g, i * 2, none⟩) (n + 1 - i) dc, .slice (some ⟨vb, 0, none⟩) 1 1]).run Try.prog W = .ok (goInt 1) (W.setRow g (over (over cur ((i + 1) * 2) (xs.drop (i * 2))) (i * 2) [x, y])) := fun W hW ty dc =>
    run_copy_row W _ _ ty 107 i0 g (i * 2) (n + 1 - i) dc ⟨vb, 0, none⟩ 1 1 [x, y] _ 107 Try.underlying57 hi0 1 (by simp only [Nat.min_def]; split <;> omega) (by simp [hz1])
      (fun j u hj => by
        rw [Addr.add_lit]
        simp only [World.cell?, hW, hW1v]
        match j, hj with
        | 0, hj => simpa using hj
        | 1, hj => simpa using hj
        | j + 2, hj => simp at hj)
      (by rw [hW]; exact hW1g) (by rw [over_size _ _ _ (by rw [hdl]; omega)]; simp; omega) (fun u hu => by simp at hu; rcases hu with rfl | rfl; exact hx1; exact hy1)
  have hfin : ∀ W : World, W.heap = W1.heap → W.os = w.os → W.tape = w.tape → W.output = w.output → InsP base (.slice (some ⟨g, 0, none⟩) n cap) n i xs [x, y] w (.returned (.slice (some ⟨g, 0, none⟩) (n + 1) cap)) (W.setRow g (over (over cur ((i + 1) * 2) (xs.drop (i * 2))) (i * 2) [x, y])) := fun W hW ho ht hp => by
    have hWg : W.heap[g]? = some (.cells (over cur ((i + 1) * 2) (xs.drop (i * 2))) 107 (0, 0)) := by rw [hW]; exact hW1g
    have hs1 : (over cur ((i + 1) * 2) (xs.drop (i * 2))).size = cap * 2 := by rw [over_size _ _ _ (by rw [hdl]; omega), hcs]
    refine ⟨_, rfl, ⟨by rw [put_len _ _ _ (by omega), hxl]; simp; omega, .inr ⟨g, cap, _, rfl, hb, setRow_heap W g _ _ _ _ hWg, hroom, hcap, ?_, ?_⟩⟩, ?_, fun k hk => .inl hk⟩
    · rw [over_size _ _ _ (by rw [hs1]; simp; omega), hs1]
    · have h := shift_take cur xs [x, y] (i * 2) (by omega) (by rw [hxl]; exact hx) (by simp; omega)
      rw [show i * 2 + [x, y].length = (i + 1) * 2 by simp; omega, show xs.length + [x, y].length = (n + 1) * 2 by simp; omega] at h
      exact h
    · have hA : w.grownBy W (some g) := ⟨ho, ht, hp, by rw [hW, hW1]; simp, fun k hk hn => by rw [hW, hW1, setRow_other _ _ _ _ (fun e => hn (by rw [e]))]; rfl⟩
      exact Grown.trans hA (grown_setRow W g _)
  rw [← hW1] at hcp1
  have hsp1 : W1.os = w.os ∧ W1.tape = w.tape ∧ W1.output = w.output := by rw [hW1]; exact ⟨rfl, rfl, rfl⟩
  have hq1 : ¬ ((i : Int) = (n : Int)) := by omega
  have hq2 : ¬ ((cap : Int) < (n : Int) + 1) := by omega
  have hw1 : IntKind.i64.wrap ((i : Int) + 1) = (i : Int) + 1 := by rw [IntKind.wrap_i64]; omega
  have hw2 : IntKind.i64.wrap ((n : Int) + 1) = (n : Int) + 1 := by rw [IntKind.wrap_i64]; omega
  have hin : i ≤ n := by omega
  have hc63 : cap ≤ 9223372036854775807 := by unfold maxLen at hcap; omega
  have HF := Lib.hid hfin
  have HO := Lib.hid hov
  have H1 := Lib.hid hcp1
  have H2 := Lib.hid hcp2
  have HS := Lib.hid hsp1
  clear hfin hcp1 hcp2 hcell hW1g hW1v hdl hW1 hx hcs hxl hg hv hg' hv' h1 hsp1 hov
  go_enter Try.func55, Try.ntmps55
  go_wp2_with (simp only [HO.out])
  have h1' := H1.out
  have h2' := H2.out
  have mixed : Try.prog.follows .mixedOrders = true := by kernel_rfl
  have hb1 : (0 : Int) ≤ (i : Int) + 1 := by omega
  have htn : ((i : Int) + 1).toNat = i + 1 := by omega
  have hb2 : ¬ (cap = i + 1) := by omega
  have hb3 : (i : Int) ≤ (n : Int) + 1 := by omega
  have hb4 : ¬ (cap = i) := by omega
  go_region_law_o (refine step_copy_runI rfl _ _ 57 57 rfl _ _ (by simp [Act.eval, Act.put]) (by simp [Act.eval, Act.put]) (h1' _ _ _) ?_)
  go_wp2_with (at_builtin; refine wpList_copy_runI _ rfl _ _ 57 57 rfl _ _ rfl rfl (h2' _ rfl _ _) ?_)
  go_ret
  exact HF.out _ rfl HS.out.1 HS.out.2.1 HS.out.2.2
end Go.Proofs.Ytcbafomhifdgpaa.Si
