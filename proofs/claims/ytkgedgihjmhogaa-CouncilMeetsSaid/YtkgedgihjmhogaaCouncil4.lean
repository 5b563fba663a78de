/- The contract of what a council has reached. -/
import Derived.Test.YtkgedgihjmhogaaCouncil3
import Derived.Shelf.Sort.Plain
import Derived.Ground.NamesProg
import Derived.Lib.OwnBridge
import Derived.Sort.OwnSortedInts
namespace Go.Proofs.Ytkgedgihjmhogaa.Council
open Go.RowKit Mem Go.Shelf Go.Sort
set_option linter.unusedSimpArgs false
set_option linter.unusedVariables false

def laySort_ren : Go.Shelf.Ren := ⟨fun | 189 => 44 | 125 => 69 | 257 => 68 | 128 => 102 | 129 => 103 | 294 => 93 | 295 => 94 | 296 => 95 | 297 => 96 | 298 => 97 | 299 => 98 | 216 => 99 | 300 => 100 | 301 => 101 | 328 => 114 | 329 => 115 | 330 => 116 | 331 => 117 | 332 => 118 | 215 => 119 | 343 => 122 | n => n, fun | 28 => 22 | 3 => 3 | 46 => 52 | 0 => 0 | 51 => 157 | 53 => 104 | 4 => 4 | 183 => 150 | 182 => 149 | 131 => 154 | 5 => 5 | 9 => 9 | 218 => 168 | 222 => 171 | 228 => 175 | 229 => 176 | n => n, fun | n => n⟩
theorem laySort : Go.Proofs.Lays.n189 Try.prog laySort_ren := {
  mixed := by kernel_rfl
  f125 := Try.func69.trans (congrArg some (by kernel_rfl))
  f128 := Try.func102.trans (congrArg some (by kernel_rfl))
  f129 := Try.func103.trans (congrArg some (by kernel_rfl))
  f189 := Try.func44.trans (congrArg some (by kernel_rfl))
  f215 := Try.func119.trans (congrArg some (by kernel_rfl))
  f216 := Try.func99.trans (congrArg some (by kernel_rfl))
  f257 := Try.func68.trans (congrArg some (by kernel_rfl))
  f294 := Try.func93.trans (congrArg some (by kernel_rfl))
  f295 := Try.func94.trans (congrArg some (by kernel_rfl))
  f296 := Try.func95.trans (congrArg some (by kernel_rfl))
  f297 := Try.func96.trans (congrArg some (by kernel_rfl))
  f298 := Try.func97.trans (congrArg some (by kernel_rfl))
  f299 := Try.func98.trans (congrArg some (by kernel_rfl))
  f300 := Try.func100.trans (congrArg some (by kernel_rfl))
  f301 := Try.func101.trans (congrArg some (by kernel_rfl))
  f328 := Try.func114.trans (congrArg some (by kernel_rfl))
  f329 := Try.func115.trans (congrArg some (by kernel_rfl))
  f330 := Try.func116.trans (congrArg some (by kernel_rfl))
  f331 := Try.func117.trans (congrArg some (by kernel_rfl))
  f332 := Try.func118.trans (congrArg some (by kernel_rfl))
  f343 := Try.func122.trans (congrArg some (by kernel_rfl))
  t0 := Try.underlying0
  a0 := Try.isAgg0
  z0 := Try.sizeOf0
  v0 := Try.zeroValue0
  t3 := Try.underlying3
  a3 := Try.isAgg3
  z3 := Try.sizeOf3
  v3 := Try.zeroValue3
  t4 := Try.underlying4
  a4 := Try.isAgg4
  z4 := Try.sizeOf4
  v4 := Try.zeroValue4
  t5 := Try.underlying5
  a5 := Try.isAgg5
  z5 := Try.sizeOf5
  v5 := Try.zeroValue5
  t9 := Try.underlying9
  a9 := Try.isAgg9
  z9 := Try.sizeOf9
  v9 := Try.zeroValue9
  t28 := Try.underlying22
  a28 := Try.isAgg22
  z28 := Try.sizeOf22
  v28 := Try.zeroValue22
  t46 := Try.underlying52
  a46 := Try.isAgg52
  z46 := Try.sizeOf52
  v46 := Try.zeroValue52
  t51 := Try.underlying157
  a51 := Try.isAgg157
  z51 := Try.sizeOf157
  v51 := Try.zeroValue157
  t53 := Try.underlying104
  a53 := Try.isAgg104
  z53 := Try.sizeOf104
  v53 := Try.zeroValue104
  t131 := Try.underlying154
  a131 := Try.isAgg154
  z131 := Try.sizeOf154
  v131 := Try.zeroValue154
  t182 := Try.underlying149
  a182 := Try.isAgg149
  z182 := Try.sizeOf149
  v182 := Try.zeroValue149
  t183 := Try.underlying150
  a183 := Try.isAgg150
  z183 := Try.sizeOf150
  v183 := Try.zeroValue150
  t218 := Try.underlying168
  a218 := Try.isAgg168
  z218 := Try.sizeOf168
  v218 := Try.zeroValue168
  t222 := Try.underlying171
  a222 := Try.isAgg171
  z222 := Try.sizeOf171
  v222 := Try.zeroValue171
  t228 := Try.underlying175
  a228 := Try.isAgg175
  z228 := Try.sizeOf175
  v228 := Try.zeroValue175
  t229 := Try.underlying176
  a229 := Try.isAgg176
  z229 := Try.sizeOf176
  v229 := Try.zeroValue176 }

theorem sort_calls (blk cap : Nat) (zs : List Int) (w : World) (hH : Holds (Value.int .i64) w blk 0 zs.toArray) (hblk : blk < w.heap.size) (hsz : zs.length < 4611686018427387904) :
    Calls Try.prog 44 #[.slice (some ⟨blk, 0, none⟩) zs.length cap] w fun e w' =>
      e = .returned (.tuple #[]) ∧ Mod w w' [blk] ∧ Holds (Value.int .i64) w' blk 0 (zs.mergeSort fun x y => decide (x ≤ y)).toArray := by
  refine (Any.slices_Sort_int laySort blk 0 cap zs w hH hblk hsz).mono ?_
  rintro e w' ⟨he, n, os, rfl⟩
  refine ⟨he, ?_, ?_⟩
  · exact (Mod.refl w [blk]).grown (grownBy_sortedI _) (fun k hk => by cases hk; simp)
  · exact holds_grow _ _ os blk 0 _ (by simpa [putRow, mapBlock, Sort.ahead] using hblk) (holds_putRow _ _ blk 0 _ _ (holds_ahead _ w n blk 0 _ hH) (by simp))

abbrev vals7 (f : Nat → Int) : Value := .agg #[.int .i64 (f 0), .int .i64 (f 1), .int .i64 (f 2), .int .i64 (f 3), .int .i64 (f 4), .int .i64 (f 5), .int .i64 (f 6)]
theorem vals7_get (f : Nat → Int) (i : Nat) (h : i < 7) : (#[.int .i64 (f 0), .int .i64 (f 1), .int .i64 (f 2), .int .i64 (f 3), .int .i64 (f 4), .int .i64 (f 5), .int .i64 (f 6)] : Array Value)[i]? = some (.int .i64 (f i)) := by
  rcases (by omega : i = 0 ∨ i = 1 ∨ i = 2 ∨ i = 3 ∨ i = 4 ∨ i = 5 ∨ i = 6) with rfl | rfl | rfl | rfl | rfl | rfl | rfl <;> rfl

theorem own_ne {w : World} {base : Nat} {e : TypeId} {v : Value} {n : Nat} {xs : List Value} (h : w.ownsRow base e 1 v n xs) (hn : 0 < n) : v ≠ .slice none 0 0 := by
  rintro rfl
  rcases own_cell h with ⟨_, h, _⟩ | ⟨_, _, h, _⟩
  · omega
  · cases h

def reachL (l : List Int) : Int := if l.length = 0 then 0 else (l.mergeSort fun x y => decide (x ≤ y)).getD ((l.length - 1) / 2) 0

theorem nodes_lt (k : Nat) : ∀ x ∈ Co.nodesL k, x < 7 := by
  intro x hx
  unfold Co.nodesL at hx
  rw [List.mem_filter, List.mem_range] at hx
  exact hx.1

set_option maxHeartbeats 1000000 in
theorem reached_calls (m : Int) (f : Nat → Int) (w : World) : Calls Try.prog 29 #[.int .i64 m, vals7 f] w fun e w' => e = .returned (.int .i64 (reachL ((Co.nodesL (Co.kn m)).map f))) ∧ Mod w w' [] := by
  have nc := fun w => nodes_calls m w
  have hnl := nodes_lt (Co.kn m)
  have hln : (Co.nodesL (Co.kn m)).length ≤ 7 := Co.cnt_le (Co.kn m)
  generalize Co.nodesL (Co.kn m) = N at *
  obtain ⟨R, hR⟩ : ∃ R, R = reachL (N.map f) := ⟨_, rfl⟩
  rw [← hR]
  have HR := Lib.hid hR
  have NC := Lib.hid nc
  have HNL := Lib.hid hnl
  clear nc hnl hR
  obtain ⟨i0, hi, hz0, hz1, hz2⟩ := info_parts info_int
  go_enter Try.func29, Try.ntmps29
  go_wp2_with fail
  refine (NC.out _).mono ?_
  rintro e w1 ⟨v, rfl, hm1, hown1⟩
  have hbx : Blk w1 w.heap.size #[.int .i64 (f 0), .int .i64 (f 1), .int .i64 (f 2), .int .i64 (f 3), .int .i64 (f 4), .int .i64 (f 5), .int .i64 (f 6)] 47 := (Blk.new w _ _).mod hm1 (by simp)
  have hbl := hbx.lt
  have HM1 := Lib.hid (((Mod.refl w []).alloc _).trans0 hm1)
  have HBX := Lib.hid hbx
  clear hm1 hbx
  rcases own_cell hown1 with ⟨rfl, h1, h2⟩ | ⟨g, cap, rfl, hg, hcap, hmx, hlen, hcell⟩
  · have H0 := Lib.hid h1
    clear h1 h2 hown1 hln
    go_wp2_with fail
    go_loop [5, 11] (fun vb vj => vb = .slice none 0 0 ∧ vj = .int .i64 0) (fun _ _ => 0)
    case atStart => exact ⟨rfl, rfl⟩
    case round =>
      obtain ⟨rfl, rfl⟩ := hrel
      go_wp2_with fail
      go_ret
      exact ⟨ret_int (by rw [HR.out]; unfold reachL; rw [if_pos (by rw [List.length_map, H0.out])]), HM1.out⟩
  · have hgl : g < w1.heap.size := by
      rcases hown1.2 with ⟨h, _⟩ | ⟨g', cap', cur, h, hb, hgg, _⟩
      · cases h
      · injection h with h _ _
        injection h with h
        injection h with h _ _
        subst h
        exact Blk.lt (t := 3) hgg
    have hc2 : ∀ j (hj : j < N.length), w1.cell? ⟨g, j, none⟩ = some (.int .i64 (N[j] : Nat)) := fun j hj => by
      rw [hcell j (by simpa [vals] using hj)]
      simp [vals]
    have HC2 := Lib.hid hc2
    clear hc2 hcell hlen hown1
    obtain ⟨n, hn⟩ : ∃ n, n = N.length := ⟨_, rfl⟩
    rw [← hn] at hcap hln ⊢
    have HN := Lib.hid hn
    clear hn
    go_wp2_with fail
    go_loopw [5, 11] (fun vb vj wr => ∃ j : Nat, j ≤ n ∧ vj = .int .i64 (j : Int) ∧ Mod w1 wr [] ∧ wr.ownsRow w1.heap.size 3 1 vb j (((N.map f).take j).map (Value.int .i64))) (fun _ vj _ => n + 1 - (intOf vj).toNat)
    case atStart => exact ⟨0, by omega, rfl, Mod.refl _ _, rfl, .inl ⟨rfl, rfl⟩⟩
    case round =>
      obtain ⟨j, hj, rfl, hmod, hown⟩ := hrel
      by_cases hlt : j < n
      · have hlt' : (j : Int) < n := by omega
        have hjN : j < N.length := by rw [← HN.out]; exact hlt
        have hc := HC2.out j hjN
        have hx7 := HNL.out N[j] (List.getElem_mem hjN)
        have hst : (N.map f).take (j + 1) = (N.map f).take j ++ [f N[j]] := by
          rw [List.take_add_one, List.getElem?_map, List.getElem?_eq_getElem hjN]; rfl
        have HST := Lib.hid hst
        generalize N[j] = x at *
        rw [← hmod.cell (p := ⟨g, j, none⟩) hgl (by simp)] at hc
        have hcx : wr.cell? ⟨w.heap.size, x, none⟩ = some (.int .i64 (f x)) := by
          rw [(HBX.out.mod hmod (by simp)).cell x, vals7_get f x hx7]
        have hx7' : (x : Int) < 7 := by omega
        have HM := Lib.hid hmod
        have hge := own_ge hown
        have HG := Lib.hid hge
        clear hmod hge hst
        obtain ⟨L, hL⟩ : ∃ L, L = ((N.map f).take j).map (Value.int .i64) := ⟨_, rfl⟩
        rw [← hL] at hown
        have HL := Lib.hid hL
        clear hL
        go_wp2_with (at_builtin; refine wpList_append_own _ rfl _ _ 22 rfl (w1.heap.size) 3 i0 (.int .i64 0) 1 8 Try.underlying22 hi hz0 hz1 hz2 rfl (by decide) _ _ _ rfl (hown.alloc _) ⟨wr.heap.size, 0, none⟩ 1 1 [.int .i64 (f x)] rfl rfl (cell_one_new _ _ _) (by simp [Value.oneCell']) (by unfold maxLen; omega) (by omega) (by have := HM.out.size; simp; omega) ?_; intro v' w2 hown' hgrow hnil; clear hnil)
        go_roundw
        case rel =>
          refine ⟨j + 1, by omega, by go_num, (HM.out.alloc _).grown hgrow (fun k hk => .inr (HG.out k hk)), ?_⟩
          rw [HST.out]
          rw [HL.out] at hown'
          simpa using hown'
        case measure => simp [intOf]; omega
      · obtain rfl : j = n := by omega
        have hall : (N.map f).take j = N.map f := by rw [List.take_of_length_le]; rw [List.length_map, ← HN.out]; exact Nat.le_refl _
        rw [hall] at hown
        have hLl : (N.map f).length = j := by rw [List.length_map, ← HN.out]
        generalize N.map f = L at *
        by_cases hj0 : j = 0
        · subst hj0
          have HM := Lib.hid hmod
          have HLL := Lib.hid hLl
          rcases own_cell hown with ⟨rfl, _, _⟩ | ⟨g2, cap2, rfl, _, _, _, _, _⟩
          all_goals
            clear hown hmod hLl
            go_wp2_with fail
            go_ret
            exact ⟨ret_int (by rw [HR.out]; unfold reachL; rw [if_pos HLL.out]), HM1.out.trans0 HM.out⟩
        · have hne := own_ne hown (by omega)
          obtain ⟨g2, cap2, rfl, hbg, hgl2, hncap, hcm, hlen2, hH⟩ := Lib.holds_of_ownsRow hown hne
          have sc := sort_calls g2 cap2 L wr hH hgl2 (by omega)
          rw [hLl] at sc
          have SC := Lib.hid sc
          have HM := Lib.hid hmod
          have HLL := Lib.hid hLl
          have hj0' : ((j : Int) == 0) = false := by rw [beq_eq_false_iff_ne]; omega
          have hpos : 0 < (j : Int) := by omega
          clear sc hmod hown hne hH hlen2 hLl hj0 hall
          go_wp2_with fail
          refine (SC.out).mono ?_
          rintro e w3 ⟨rfl, hm3, hH3⟩
          have hsl : (L.mergeSort fun x y => decide (x ≤ y)).length = j := by rw [List.length_mergeSort, HLL.out]
          have hcs : w3.cell? ⟨g2, (j - 1) / 2, none⟩ = some (.int .i64 ((L.mergeSort fun x y => decide (x ≤ y)).getD ((j - 1) / 2) 0)) := by
            have h1 := (hH3 ((j - 1) / 2) (by simp [hsl]; omega)).1
            rw [Nat.zero_add] at h1
            rw [h1, getElem!_pos _ _ (by simp [hsl]; omega)]
            simp [List.getD]
            rw [List.getElem?_eq_getElem (by rw [hsl]; omega)]; rfl
          have HS : Hid (R = (L.mergeSort fun x y => decide (x ≤ y)).getD ((j - 1) / 2) 0) := Lib.hid (by rw [HR.out]; unfold reachL; rw [if_neg (by rw [HLL.out]; omega), HLL.out])
          generalize (L.mergeSort fun x y => decide (x ≤ y)).getD ((j - 1) / 2) 0 = V at *
          have hq : ((j : Int) - 1) / 2 = (((j - 1) / 2 : Nat) : Int) := by omega
          have hq2 : (j - 1) / 2 < j := by omega
          have HM3 := Lib.hid hm3
          clear hm3 hH3 hsl
          generalize (j - 1) / 2 = q at *
          have hq2' : (q : Int) < j := by omega
          go_wp2_with fail
          go_ret
          exact ⟨ret_int (by rw [HS.out]), HM1.out.trans ((HM.out.weak0 (R := [g2])).trans HM3.out (by simp)) (by simp; have := HM1.out.size; omega)⟩
end Go.Proofs.Ytkgedgihjmhogaa.Council
