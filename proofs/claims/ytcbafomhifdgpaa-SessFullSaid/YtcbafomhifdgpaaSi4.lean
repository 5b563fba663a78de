/- slices.Insert at []api.Session: where there is no room; all roads as one contract. -/
import Derived.Test.YtcbafomhifdgpaaSi3
namespace Go.Proofs.Ytcbafomhifdgpaa.Si
open Go.RowKit Mem
set_option linter.unusedSimpArgs false
set_option linter.unusedVariables false
set_option maxRecDepth 100000

set_option maxHeartbeats 4000000 in
theorem ins_grow (base g cap n i vb : Nat) (cur : Array Value) (xs : List Value) (x y : Value) (w : World) (hb : base ≤ g) (hbase : base ≤ w.heap.size) (hg : Blk w g cur 107) (hv : Blk w vb #[x, y] 107)
    (hi : i < n) (hnc : n ≤ cap) (hroom : ¬ (n + 1 ≤ cap)) (hn : n ≤ 1000) (hcs : cur.size = cap * 2) (hxl : xs.length = n * 2) (hx : cur.toList.take (n * 2) = xs) (h1 : ∀ u ∈ xs, u.oneCell' = true) (hx1 : x.oneCell' = true) (hy1 : y.oneCell' = true) :
    Calls Try.prog 55 #[.slice (some ⟨g, 0, none⟩) n cap, .int .i64 i, .slice (some ⟨vb, 0, none⟩) 1 1] w
      (InsP base (.slice (some ⟨g, 0, none⟩) n cap) n i xs [x, y] w) := by
  obtain ⟨i0, hi0, hz0, hz1, hz2⟩ := info_parts info_sess
  have hg' : w.heap[g]? = some (.cells cur 107 (0, 0)) := hg
  have hv' : w.heap[vb]? = some (.cells #[x, y] 107 (0, 0)) := hv
  have hgl := hg.lt
  have hvl := hv.lt
  have hdl : (xs.drop (i * 2)).length = (n - i) * 2 := by rw [List.length_drop, hxl]; omega
  have htl : (xs.take (i * 2)).length = i * 2 := by rw [List.length_take, hxl]; omega
  have hcell : ∀ j u, xs[j]? = some u → w.cell? ⟨g, j, none⟩ = some u := fun j u hj => by
    rw [hg.cell, ← hj, ← hx, List.getElem?_take]
    split
    · simp
    · rename_i hlt
      rw [List.getElem?_eq_none (by omega)] at hj
      cases hj
  have hold : (Builtin.firstCells i0.size i (.slice (some ⟨g, 0, none⟩) i cap)).run Try.prog w.drew = .ok (xs.take (i * 2)).toArray w.drew :=
    run_firstCells_some w.drew i0.size i ⟨g, 0, none⟩ i cap (xs.take (i * 2)) (by rw [htl, hz1]) (fun j u hj => by
      rw [Addr.add_lit, Nat.zero_add]
      rw [List.getElem?_take] at hj
      split at hj
      · exact hcell j u hj
      · cases hj)
  have hkk : (n : Int) + 1 - (i : Int) = ((n + 1 - i : Nat) : Int) := by omega
  have hik : i + (n + 1 - i) = n + 1 := by omega
  obtain ⟨Z, hZ⟩ : ∃ Z : List Value, Z = (Builtin.zeroCells (Value.agg #[.int .i64 0, .int .i64 0]).cells (n + 1 - i) ++ Builtin.zeroCells (Value.agg #[.int .i64 0, .int .i64 0]).cells (grownCap w (n + 1) cap 107 - (n + 1))).toList := ⟨_, rfl⟩
  have hGn : n + 1 ≤ grownCap w (n + 1) cap 107 := grownCap_ge w _ _ _
  have hG63 := grownCap_le_maxLen w (n + 1) cap 107 (by unfold maxLen; omega)
  have hzl : Z.length = (n + 1 - i) * 2 + (grownCap w (n + 1) cap 107 - (n + 1)) * 2 := by
    rw [hZ, Array.length_toList, Array.size_append, size_zeroCells, size_zeroCells]
    rfl
  have hrz : ∀ ty, (Builtin.append_ #[57, 3] ty #[.slice (some ⟨g, 0, none⟩) i cap, .int .i64 ((n : Int) + 1 - (i : Int))]).run Try.prog w =
      .ok (.slice (some ⟨w.heap.size, 0, none⟩) (n + 1) (grownCap w (n + 1) cap 107)) (w.drew.alloc (.cells (xs.take (i * 2) ++ Z).toArray 107)) := fun ty => by
    have h := Lib.run_append_grow_zeros w 57 3 ty 107 i0 _ .i64 .i64 Try.underlying57 Try.underlying3 hi0 hz0 (some ⟨g, 0, none⟩) i cap (xs.take (i * 2)) hold (n + 1 - i) (by omega) (by omega) (by omega) (by omega) (by rw [hz2]; omega) (by rw [hz2, hik]; exact growslice_fits (by omega) (by omega))
    rw [hik] at h
    have hA : (xs.take (i * 2)).toArray ++ Builtin.zeroCells (Value.agg #[.int .i64 0, .int .i64 0]).cells (n + 1 - i) ++ Builtin.zeroCells (Value.agg #[.int .i64 0, .int .i64 0]).cells (grownCap w (n + 1) cap 107 - (n + 1)) = (xs.take (i * 2) ++ Z).toArray := by
      rw [hZ]
      apply Array.ext'
      simp
    rw [hkk, h, hA]
  obtain ⟨G, hG⟩ : ∃ G, G = grownCap w (n + 1) cap 107 := ⟨_, rfl⟩
  rw [← hG] at hrz hGn hG63 hzl
  have hG0 : G ≤ 9223372036854775807 := by unfold maxLen at hG63; omega
  clear hZ hG
  obtain ⟨ROW, hROW⟩ : ∃ ROW : Array Value, ROW = (xs.take (i * 2) ++ Z).toArray := ⟨_, rfl⟩
  have hRs : ROW.size = G * 2 := by rw [hROW, List.size_toArray, List.length_append, htl, hzl]; omega
  have hfin0 := grow_take xs [x, y] Z (i * 2) (by omega) (by rw [hxl, hzl]; simp; omega)
  rw [← hROW, show i * 2 + [x, y].length = (i + 1) * 2 by simp; omega, show xs.length + [x, y].length = (n + 1) * 2 by simp; omega] at hfin0
  rw [← hROW] at hrz
  clear hROW
  obtain ⟨N, hN⟩ : ∃ N, N = w.heap.size := ⟨_, rfl⟩
  obtain ⟨W1, hW1⟩ : ∃ W1, W1 = w.drew.alloc (.cells ROW 107) := ⟨_, rfl⟩
  have hW1N : W1.heap[N]? = some (.cells ROW 107 (0, 0)) := by rw [hW1, hN]; exact heap_alloc_new w.drew _
  have hW1o : ∀ k, k < w.heap.size → W1.heap[k]? = w.heap[k]? := fun k hk => by rw [hW1]; exact Below.heap_alloc w.drew _ k hk
  have hW1s : W1.heap.size = w.heap.size + 1 := by rw [hW1]; simp
  have hs1 : (over ROW (i * 2) [x, y]).size = G * 2 := by rw [over_size _ _ _ (by simp; omega), hRs]
  have hcpA : ∀ (W : World), W.heap = W1.heap → ∀ ty dc, (Builtin.copy_ #[57, 57] ty #[.slice (some ⟨N, i * 2, none⟩) (n + 1 - i) dc, .slice (some ⟨vb, 0, none⟩) 1 1]).run Try.prog W = .ok (goInt 1) (W.setRow N (over ROW (i * 2) [x, y])) := fun W hW ty dc =>
    run_copy_row W _ _ ty 107 i0 N (i * 2) (n + 1 - i) dc ⟨vb, 0, none⟩ 1 1 [x, y] ROW 107 Try.underlying57 hi0 1 (by simp only [Nat.min_def]; split <;> omega) (by simp [hz1])
      (two_cells (show Blk W vb #[x, y] 107 by unfold Blk; rw [hW, hW1o _ hvl]; exact hv')) (by rw [hW]; exact hW1N) (by rw [hRs]; simp; omega) (fun u hu => by simp at hu; rcases hu with rfl | rfl; exact hx1; exact hy1)
  have hgN : g ≠ N := by omega
  have hcpB : ∀ (W : World), W.heap = (W1.setRow N (over ROW (i * 2) [x, y])).heap → ∀ ty dc sc, (Builtin.copy_ #[57, 57] ty #[.slice (some ⟨N, (i + 1) * 2, none⟩) (n - i) dc, .slice (some ⟨g, i * 2, none⟩) (n - i) sc]).run Try.prog W = .ok (goInt ((n - i : Nat) : Int)) (W.setRow N (over (over ROW (i * 2) [x, y]) ((i + 1) * 2) (xs.drop (i * 2)))) := fun W hW ty dc sc =>
    run_copy_row W _ _ ty 107 i0 N ((i + 1) * 2) (n - i) dc ⟨g, i * 2, none⟩ (n - i) sc (xs.drop (i * 2)) (over ROW (i * 2) [x, y]) 107 Try.underlying57 hi0 (n - i) (by simp only [Nat.min_def]; split <;> omega) (by rw [hdl, hz1])
      (fun j u hj => by
        rw [Addr.add_lit]
        have hc := hcell (i * 2 + j) u (by rwa [List.getElem?_drop] at hj)
        rw [← hc]
        exact World.cell?_of_block (a := ⟨g, i * 2 + j, none⟩) (by show W.heap[g]? = w.heap[g]?; rw [hW, setRow_other _ _ _ _ hgN, hW1o _ hgl]))
      (by rw [hW]; exact setRow_heap W1 N _ _ _ _ hW1N) (by rw [hdl, hs1]; omega) (fun u hu => h1 u (List.mem_of_mem_drop hu))
  have hfin : ∀ W : World, W.heap = (W1.setRow N (over ROW (i * 2) [x, y])).heap → W.os = w.os → W.tape = w.tape → W.output = w.output → InsP base (.slice (some ⟨g, 0, none⟩) n cap) n i xs [x, y] w (.returned (.slice (some ⟨N, 0, none⟩) (n + 1) G)) (W.setRow N (over (over ROW (i * 2) [x, y]) ((i + 1) * 2) (xs.drop (i * 2)))) := fun W hW ho ht hp => by
    have hWg : W.heap[N]? = some (.cells (over ROW (i * 2) [x, y]) 107 (0, 0)) := by rw [hW]; exact setRow_heap W1 N _ _ _ _ hW1N
    refine ⟨_, rfl, ⟨by rw [put_len _ _ _ (by omega), hxl]; simp; omega, .inr ⟨N, G, _, rfl, by omega, setRow_heap W N _ _ _ _ hWg, hGn, hG63, ?_, ?_⟩⟩, ?_, fun k hk => .inr (by simp only [Value.ownBlock, Option.some.injEq] at hk; omega)⟩
    · rw [over_size _ _ _ (by rw [hs1, hdl]; omega), hs1]
    · exact hfin0
    · have hA : w.grownBy W (Value.ownBlock (.slice (some ⟨g, 0, none⟩) n cap)) := ⟨ho, ht, hp, by rw [hW]; simp; omega, fun k hk hn => by rw [hW, setRow_other _ _ _ _ (by omega), hW1o k hk]⟩
      exact Grown.fresh hA (by omega) _
  subst hN
  rw [← hW1] at hrz
  have hsp1 : W1.os = w.os ∧ W1.tape = w.tape ∧ W1.output = w.output := by rw [hW1]; exact ⟨rfl, rfl, rfl⟩
  have hq1 : ¬ ((i : Int) = (n : Int)) := by omega
  have hq2 : (cap : Int) < (n : Int) + 1 := by omega
  have hw1 : IntKind.i64.wrap ((i : Int) + 1) = (i : Int) + 1 := by rw [IntKind.wrap_i64]; omega
  have hw2 : IntKind.i64.wrap ((n : Int) + 1) = (n : Int) + 1 := by rw [IntKind.wrap_i64]; omega
  have hw3 : IntKind.i64.wrap ((n : Int) + 1 - (i : Int)) = (n : Int) + 1 - (i : Int) := by rw [IntKind.wrap_i64]; omega
  have hin : i ≤ n := by omega
  have hic : i ≤ cap := by omega
  have hb1 : (0 : Int) ≤ (i : Int) + 1 := by omega
  have htn : ((i : Int) + 1).toNat = i + 1 := by omega
  have hb2 : ¬ (G = i + 1) := by omega
  have hb3 : (i : Int) ≤ (n : Int) + 1 := by omega
  have hb3' : (i : Int) ≤ (n : Int) := by omega
  have hb4 : ¬ (G = i) := by omega
  have hb5 : ¬ (cap = i) := by omega
  have mixed : Try.prog.follows .mixedOrders = true := by kernel_rfl
  have HF := Lib.hid hfin
  have HRZ := Lib.hid hrz
  have HA := Lib.hid hcpA
  have HB := Lib.hid hcpB
  have HS := Lib.hid hsp1
  clear hfin hcpA hcpB hcell hW1N hW1o hW1s hdl htl hW1 hx hcs hxl hg hv hg' hv' h1 hsp1 hrz hs1 hRs hfin0 hold hkk hik hzl hgl hvl
  go_enter Try.func55, Try.ntmps55
  have hA' := HA.out
  go_wp2_with (at_builtin; refine Lib.wpList_append_run _ rfl _ _ _ _ rfl _ _ rfl rfl _ _ (HRZ.out _) ?_)
  have hB' := HB.out ((W1.setRow w.heap.size (over ROW (i * 2) [x, y])).drew) rfl
  go_region_law_o (refine step_copy_runI rfl _ _ 57 57 rfl _ _ (by simp [Act.eval, Act.put]) (by simp [Act.eval, Act.put]) (hB' _ _ _) ?_)
  go_wp2
  go_ret
  exact HF.out _ rfl HS.out.1 HS.out.2.1 HS.out.2.2

/-- Insert of one session, whatever the road. -/
theorem ins_calls (base vb n i : Nat) (v : Value) (xs : List Value) (x y : Value) (w : World) (hown : w.ownsRow base 107 2 v n xs) (hbase : base ≤ w.heap.size) (hv : Blk w vb #[x, y] 107) (hne : v.ownBlock ≠ some vb)
    (hi : i ≤ n) (hn : n ≤ 1000) (h1 : ∀ u ∈ xs, u.oneCell' = true) (hx1 : x.oneCell' = true) (hy1 : y.oneCell' = true) :
    Calls Try.prog 55 #[v, .int .i64 i, .slice (some ⟨vb, 0, none⟩) 1 1] w (InsP base v n i xs [x, y] w) := by
  by_cases hin : i = n
  · subst hin
    exact ins_end base vb i v xs x y w hown hbase hv hn hx1 hy1
  · obtain ⟨h0, ⟨rfl, rfl⟩ | ⟨g, cap, cur, rfl, hg, hb, h2, h3, h4, h5⟩⟩ := hown
    · exact absurd hi (by omega)
    · have hvg : vb ≠ g := fun e => hne (by rw [e]; rfl)
      by_cases hr : n + 1 ≤ cap
      · exact ins_room base g cap n i vb cur xs x y w hg hb hv hvg (by omega) hr h3 hn h4 h0 h5 h1 hx1 hy1
      · exact ins_grow base g cap n i vb cur xs x y w hg hbase hb hv (by omega) h2 hr hn h4 h0 h5 h1 hx1 hy1
end Go.Proofs.Ytcbafomhifdgpaa.Si
