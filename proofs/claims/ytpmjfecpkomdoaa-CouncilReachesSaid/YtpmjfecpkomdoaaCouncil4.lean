/- The contract of what a council has reached. -/
import Derived.Test.YtpmjfecpkomdoaaCouncil3
import Derived.Shelf.Lay
import Derived.Shelf.Sort.Plain
import Derived.Ground.NamesProg
import Derived.Lib.OwnBridge
import Derived.Sort.OwnSortedInts
namespace Go.Proofs.Ytpmjfecpkomdoaa.Council
open Go.RowKit Mem Go.Shelf Go.Sort
set_option linter.unusedSimpArgs false
set_option linter.unusedVariables false

shelf_lay Lays.n189 Nm 189 at Try as laySort

theorem sort_calls (blk cap : Nat) (zs : List Int) (w : World) (hH : Holds (Value.int .i64) w blk 0 zs.toArray) (hblk : blk < w.heap.size) (hsz : zs.length < 4611686018427387904) :
    Calls Try.prog 37 #[.slice (some ⟨blk, 0, none⟩) zs.length cap] w fun e w' =>
      e = .returned (.tuple #[]) ∧ Mod w w' [blk] ∧ Holds (Value.int .i64) w' blk 0 (zs.mergeSort fun x y => decide (x ≤ y)).toArray := by
  refine (Any.slices_Sort_int laySort blk 0 cap zs w hH hblk hsz).mono ?_
  rintro e w' ⟨he, n, os, rfl⟩
  refine ⟨he, ?_, ?_⟩
  · exact (Mod.refl w [blk]).grown (grownBy_sortedI _) (fun k hk => by cases hk; simp)
  · exact holds_grow _ _ os blk 0 _ (by simpa [putRow, mapBlock, Sort.ahead] using hblk) (holds_putRow _ _ blk 0 _ _ (holds_ahead _ w n blk 0 _ hH) (by simp))

abbrev vals7 (f : Nat → Int) : Value := .agg #[.int .i64 (f 0), .int .i64 (f 1), .int .i64 (f 2), .int .i64 (f 3), .int .i64 (f 4), .int .i64 (f 5), .int .i64 (f 6)]
theorem vals7_get (f : Nat → Int) (i : Nat) (h : i < 7) : (#[.int .i64 (f 0), .int .i64 (f 1), .int .i64 (f 2), .int .i64 (f 3), .int .i64 (f 4), .int .i64 (f 5), .int .i64 (f 6)] : Array Value)[i]? = some (.int .i64 (f i)) := by
  rcases (by omega : i = 0 ∨ i = 1 ∨ i = 2 ∨ i = 3 ∨ i = 4 ∨ i = 5 ∨ i = 6) with rfl | rfl | rfl | rfl | rfl | rfl | rfl <;> rfl

theorem own_ne {w : World} {base : Nat} {e : TypeId} {v : Value} {n : Nat} {xs : List Value} (h : w.ownsRow base e 1 v n xs) (hn : 0 < n) : v ≠ .slice none 0 0 := by
  rintro rfl
  rcases own_cell h with ⟨_, h, _⟩ | ⟨_, _, h, _⟩
  · omega
  · cases h

def reachL (l : List Int) : Int := if l.length = 0 then 0 else (l.mergeSort fun x y => decide (x ≤ y)).getD ((l.length - 1) / 2) 0

theorem nodes_lt (k : Nat) : ∀ x ∈ Co.nodesL k, x < 7 := by
  intro x hx
  unfold Co.nodesL at hx
  rw [List.mem_filter, List.mem_range] at hx
  exact hx.1

set_option maxHeartbeats 1000000 in
theorem reached_calls (m : Int) (f : Nat → Int) (w : World) : Calls Try.prog 23 #[.int .i64 m, vals7 f] w fun e w' => e = .returned (.int .i64 (reachL ((Co.nodesL (Co.kn m)).map f))) ∧ Mod w w' [] := by
  have nc := fun w => nodes_calls m w
  have hnl := nodes_lt (Co.kn m)
  have hln : (Co.nodesL (Co.kn m)).length ≤ 7 := Co.cnt_le (Co.kn m)
  generalize Co.nodesL (Co.kn m) = N at *
  obtain ⟨R, hR⟩ : ∃ R, R = reachL (N.map f) := ⟨_, rfl⟩
  rw [← hR]
  have HR := Lib.hid hR
  have NC := Lib.hid nc
  have HNL := Lib.hid hnl
  clear nc hnl hR
  obtain ⟨i0, hi, hz0, hz1, hz2⟩ := info_parts info_int
  go_enter Try.func23, Try.ntmps23
  go_wp2_with fail
  refine (NC.out _).mono ?_
  rintro e w1 ⟨v, rfl, hm1, hown1⟩
  have hbx : Blk w1 w.heap.size #[.int .i64 (f 0), .int .i64 (f 1), .int .i64 (f 2), .int .i64 (f 3), .int .i64 (f 4), .int .i64 (f 5), .int .i64 (f 6)] 28 := (Blk.new w _ _).mod hm1 (by simp)
  have hbl := hbx.lt
  have HM1 := Lib.hid (((Mod.refl w []).alloc _).trans0 hm1)
  have HBX := Lib.hid hbx
  clear hm1 hbx
  rcases own_cell hown1 with ⟨rfl, h1, h2⟩ | ⟨g, cap, rfl, hg, hcap, hmx, hlen, hcell⟩
  · have H0 := Lib.hid h1
    clear h1 h2 hown1 hln
    go_wp2_with fail
    go_loop [5, 11] (fun vb vj => vb = .slice none 0 0 ∧ vj = .int .i64 0) (fun _ _ => 0)
    case atStart => exact ⟨rfl, rfl⟩
    case round =>
      obtain ⟨rfl, rfl⟩ := hrel
      go_wp2_with fail
      go_ret
      exact ⟨ret_int (by rw [HR.out]; unfold reachL; rw [if_pos (by rw [List.length_map, H0.out])]), HM1.out⟩
  · have hgl : g < w1.heap.size := by
      rcases hown1.2 with ⟨h, _⟩ | ⟨g', cap', cur, h, hb, hgg, _⟩
      · cases h
      · injection h with h _ _
        injection h with h
        injection h with h _ _
        subst h
        exact Blk.lt (t := 3) hgg
    have hc2 : ∀ j (hj : j < N.length), w1.cell? ⟨g, j, none⟩ = some (.int .i64 (N[j] : Nat)) := fun j hj => by
      rw [hcell j (by simpa [vals] using hj)]
      simp [vals]
    have HC2 := Lib.hid hc2
    clear hc2 hcell hlen hown1
    obtain ⟨n, hn⟩ : ∃ n, n = N.length := ⟨_, rfl⟩
    rw [← hn] at hcap hln ⊢
    have HN := Lib.hid hn
    clear hn
    go_wp2_with fail
    go_loopw [5, 11] (fun vb vj wr => ∃ j : Nat, j ≤ n ∧ vj = .int .i64 (j : Int) ∧ Mod w1 wr [] ∧ wr.ownsRow w1.heap.size 3 1 vb j (((N.map f).take j).map (Value.int .i64))) (fun _ vj _ => n + 1 - (intOf vj).toNat)
    case atStart => exact ⟨0, by omega, rfl, Mod.refl _ _, rfl, .inl ⟨rfl, rfl⟩⟩
    case round =>
      obtain ⟨j, hj, rfl, hmod, hown⟩ := hrel
      by_cases hlt : j < n
      · have hlt' : (j : Int) < n := by omega
        have hjN : j < N.length := by rw [← HN.out]; exact hlt
        have hc := HC2.out j hjN
        have hx7 := HNL.out N[j] (List.getElem_mem hjN)
        have hst : (N.map f).take (j + 1) = (N.map f).take j ++ [f N[j]] := by
          rw [List.take_add_one, List.getElem?_map, List.getElem?_eq_getElem hjN]; rfl
        have HST := Lib.hid hst
        generalize N[j] = x at *
        rw [← hmod.cell (p := ⟨g, j, none⟩) hgl (by simp)] at hc
        have hcx : wr.cell? ⟨w.heap.size, x, none⟩ = some (.int .i64 (f x)) := by
          rw [(HBX.out.mod hmod (by simp)).cell x, vals7_get f x hx7]
        have hx7' : (x : Int) < 7 := by omega
        have HM := Lib.hid hmod
        have hge := own_ge hown
        have HG := Lib.hid hge
        clear hmod hge hst
        obtain ⟨L, hL⟩ : ∃ L, L = ((N.map f).take j).map (Value.int .i64) := ⟨_, rfl⟩
        rw [← hL] at hown
        have HL := Lib.hid hL
        clear hL
        go_wp2_with (at_builtin; refine wpList_append_own _ rfl _ _ 22 rfl (w1.heap.size) 3 i0 (.int .i64 0) 1 8 Try.underlying22 hi hz0 hz1 hz2 rfl (by decide) _ _ _ rfl (hown.alloc _) ⟨wr.heap.size, 0, none⟩ 1 1 [.int .i64 (f x)] rfl rfl (cell_one_new _ _ _) (by simp [Value.oneCell']) (by unfold maxLen; omega) (by omega) (by have := HM.out.size; simp; omega) ?_; intro v' w2 hown' hgrow hnil; clear hnil)
        go_roundw
        case rel =>
          refine ⟨j + 1, by omega, by go_num, (HM.out.alloc _).grown hgrow (fun k hk => .inr (HG.out k hk)), ?_⟩
          rw [HST.out]
          rw [HL.out] at hown'
          simpa using hown'
        case measure => simp [intOf]; omega
      · obtain rfl : j = n := by omega
        have hall : (N.map f).take j = N.map f := by rw [List.take_of_length_le]; rw [List.length_map, ← HN.out]; exact Nat.le_refl _
        rw [hall] at hown
        have hLl : (N.map f).length = j := by rw [List.length_map, ← HN.out]
        generalize N.map f = L at *
        by_cases hj0 : j = 0
        · subst hj0
          have HM := Lib.hid hmod
          have HLL := Lib.hid hLl
          rcases own_cell hown with ⟨rfl, _, _⟩ | ⟨g2, cap2, rfl, _, _, _, _, _⟩
          all_goals
            clear hown hmod hLl
            go_wp2_with fail
            go_ret
            exact ⟨ret_int (by rw [HR.out]; unfold reachL; rw [if_pos HLL.out]), HM1.out.trans0 HM.out⟩
        · have hne := own_ne hown (by omega)
          obtain ⟨g2, cap2, rfl, hbg, hgl2, hncap, hcm, hlen2, hH⟩ := Lib.holds_of_ownsRow hown hne
          have sc := sort_calls g2 cap2 L wr hH hgl2 (by omega)
          rw [hLl] at sc
          have SC := Lib.hid sc
          have HM := Lib.hid hmod
          have HLL := Lib.hid hLl
          have hj0' : ((j : Int) == 0) = false := by rw [beq_eq_false_iff_ne]; omega
          have hpos : 0 < (j : Int) := by omega
          clear sc hmod hown hne hH hlen2 hLl hj0 hall
          go_wp2_with fail
          refine (SC.out).mono ?_
          rintro e w3 ⟨rfl, hm3, hH3⟩
          have hsl : (L.mergeSort fun x y => decide (x ≤ y)).length = j := by rw [List.length_mergeSort, HLL.out]
          have hcs : w3.cell? ⟨g2, (j - 1) / 2, none⟩ = some (.int .i64 ((L.mergeSort fun x y => decide (x ≤ y)).getD ((j - 1) / 2) 0)) := by
            have h1 := (hH3 ((j - 1) / 2) (by simp [hsl]; omega)).1
            rw [Nat.zero_add] at h1
            rw [h1, getElem!_pos _ _ (by simp [hsl]; omega)]
            simp [List.getD]
            rw [List.getElem?_eq_getElem (by rw [hsl]; omega)]; rfl
          have HS : Hid (R = (L.mergeSort fun x y => decide (x ≤ y)).getD ((j - 1) / 2) 0) := Lib.hid (by rw [HR.out]; unfold reachL; rw [if_neg (by rw [HLL.out]; omega), HLL.out])
          generalize (L.mergeSort fun x y => decide (x ≤ y)).getD ((j - 1) / 2) 0 = V at *
          have hq : ((j : Int) - 1) / 2 = (((j - 1) / 2 : Nat) : Int) := by omega
          have hq2 : (j - 1) / 2 < j := by omega
          have HM3 := Lib.hid hm3
          clear hm3 hH3 hsl
          generalize (j - 1) / 2 = q at *
          have hq2' : (q : Int) < j := by omega
          go_wp2_with fail
          go_ret
          exact ⟨ret_int (by rw [HS.out]), HM1.out.trans ((HM.out.weak0 (R := [g2])).trans HM3.out (by simp)) (by simp; have := HM1.out.size; omega)⟩
end Go.Proofs.Ytpmjfecpkomdoaa.Council
