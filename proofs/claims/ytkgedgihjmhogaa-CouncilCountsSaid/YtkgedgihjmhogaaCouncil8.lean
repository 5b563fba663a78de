/- The law CouncilCounts. -/
import Derived.Test.YtkgedgihjmhogaaCouncil5
import Derived.Test.YtkgedgihjmhogaaQuiet
namespace Go.Proofs.Ytkgedgihjmhogaa.Co
theorem nodes_sorted (k : Nat) : (nodesL k).Pairwise (· < ·) := by
  unfold nodesL
  exact List.Pairwise.filter _ List.pairwise_lt_range
theorem nodes_lt_get (k i : Nat) (h : i + 1 < (nodesL k).length) : (nodesL k).getD i 0 < (nodesL k).getD (i + 1) 0 := by
  have := List.pairwise_iff_getElem.1 (nodes_sorted k) i (i + 1) (by omega) h (by omega)
  rw [List.getD_eq_getElem?_getD, List.getD_eq_getElem?_getD, List.getElem?_eq_getElem (by omega), List.getElem?_eq_getElem h]
  exact this
theorem nodes_hb (k i : Nat) (h : i < (nodesL k).length) : (nodesL k).getD i 0 < 7 ∧ hb k ((nodesL k).getD i 0) = true := by
  have := List.getElem_mem h
  rw [List.getD_eq_getElem?_getD, List.getElem?_eq_getElem h]
  show (nodesL k)[i] < 7 ∧ hb k (nodesL k)[i] = true
  generalize (nodesL k)[i] = x at *
  unfold nodesL at this
  rw [List.mem_filter, List.mem_range] at this
  exact this
end Go.Proofs.Ytkgedgihjmhogaa.Co
namespace Go.Proofs.Ytkgedgihjmhogaa.Council
open Go.RowKit Mem
set_option linter.unusedSimpArgs false
set_option linter.unusedVariables false

set_option maxHeartbeats 1000000 in
theorem counts_calls (m who node : Int) (w : World) :
    Calls Try.prog 5 #[.int .i64 m, .int .i64 who, .int .i64 node] w fun e w' => e = .returned (.bool true) ∧ Below w.heap.size w w' := by
  have nc := fun w => nodes_calls m w
  have rs := fun w => refsize_calls m w
  have sc := fun w => size_calls m w
  have hln := Co.cnt_le (Co.kn m)
  have hlt := Co.nodes_lt_get (Co.kn m)
  have hhb := Co.nodes_hb (Co.kn m)
  have hin := hasI_in m
  have hcl : (Co.nodesL (Co.kn m)).length = Co.cnt (Co.kn m) := rfl
  generalize Co.nodesL (Co.kn m) = N at *
  generalize Co.cnt (Co.kn m) = n at *
  generalize Co.kn m = K at *
  have NC := Lib.hid nc
  have RS := Lib.hid rs
  have SC := Lib.hid sc
  have HLT := Lib.hid hlt
  have HHB := Lib.hid hhb
  have HIN := Lib.hid hin
  have HCL := Lib.hid hcl
  have RH := Lib.hid (fun i w => refhas_calls m i w)
  have HC := Lib.hid (has_calls m node)
  have EC := Lib.hid (enough_calls m who)
  have RE := Lib.hid (refenough_calls m who)
  have AW := Lib.hid awake_calls
  clear nc rs sc hlt hhb hin
  go_enter Try.func5, Try.ntmps5
  go_wp2_with fail
  refine (NC.out _).mono ?_
  rintro e w1 ⟨v, rfl, hm1, hown⟩
  rw [hcl] at hown
  have HM1 := Lib.hid hm1
  clear hm1 hcl
  rcases own_cell hown with ⟨rfl, h1, h2⟩ | ⟨g, cap, rfl, hg, hcap, hmx, hlen, hcell⟩
  · subst h1
    clear h2 hown
    go_wp2_with fail
    refine (RS.out _).mono ?_
    rintro e w2 ⟨rfl, rfl⟩
    go_wp2_with fail
    go_loop [8] (fun vj => vj = .int .i64 0) (fun _ => 0)
    case atStart => rfl
    case round =>
      subst hrel
      go_wp2_with fail
      refine (AW.out _).mono ?_
      rintro e w2 ⟨rfl, hm2⟩
      go_wp2_with fail
      refine (HC.out _).mono ?_
      rintro e w3 ⟨rfl, rfl⟩
      go_wp2_with fail
      refine (RH.out _ _).mono ?_
      rintro e w3 ⟨rfl, rfl⟩
      go_wp2_with fail
      refine (SC.out _).mono ?_
      rintro e w3 ⟨rfl, hm3⟩
      go_wp2_with fail
      refine (EC.out _).mono ?_
      rintro e w4 ⟨rfl, hm4⟩
      go_wp2_with fail
      refine (RE.out _).mono ?_
      rintro e w5 ⟨rfl, rfl⟩
      go_wp2_with fail
      go_ret
      exact ⟨ret_bool (by first | rfl | simp), (((HM1.out.trans0 hm2).trans0 hm3).trans0 hm4).below0⟩
  · have hgl : g < w1.heap.size := by
      rcases hown.2 with ⟨h, _⟩ | ⟨g', cap', cur, h, hb, hgg, _⟩
      · cases h
      · injection h with h _ _
        injection h with h
        injection h with h _ _
        subst h
        exact Blk.lt (t := 3) hgg
    have hc2 : ∀ j (hj : j < N.length), w1.cell? ⟨g, j, none⟩ = some (.int .i64 (N.getD j 0 : Nat)) := fun j hj => by
      rw [hcell j (by simpa [vals] using hj), List.getD_eq_getElem?_getD, List.getElem?_eq_getElem hj]
      simp [vals]
    have HC2 := Lib.hid hc2
    clear hc2 hcell hlen hown
    go_wp2_with fail
    refine (RS.out _).mono ?_
    rintro e w2 ⟨rfl, rfl⟩
    go_wp2_with fail
    go_loopw [8] (fun vj wr => ∃ j : Nat, j ≤ n ∧ vj = .int .i64 (j : Int) ∧ Mod w1 wr []) (fun vj _ => n + 1 - (intOf vj).toNat)
    case atStart => exact ⟨0, by omega, rfl, Mod.refl _ _⟩
    case round =>
      obtain ⟨j, hj, rfl, hmod⟩ := hrel
      by_cases hjn : j < n
      · have hjn' : (j : Int) < n := by omega
        have hjN : j < N.length := by rw [HCL.out]; exact hjn
        obtain ⟨hx7, hxb⟩ := HHB.out j hjN
        have hI := HIN.out (N.getD j 0) hx7
        rw [hxb] at hI
        have hglr : g < wr.heap.size := by have := hmod.size; omega
        have hcj := cell_after hglr (by rw [hmod.cell (p := ⟨g, j, none⟩) hgl (by simp)]; exact HC2.out j hjN)
        have HI := Lib.hid hI
        have HMr := Lib.hid hmod
        clear hI hxb hmod
        by_cases hj0 : j = 0
        · subst hj0
          generalize N.getD 0 0 = x at *
          have HR : Hid (∀ w, Calls Try.prog 21 #[.int .i64 m, .int .i64 (x : Int)] w fun e w' => e = .returned (.bool true) ∧ w = w') := Lib.hid (fun w => by rw [← HI.out]; exact RH.out _ w)
          go_wp2_with fail
          (refine wp_region_quiet_after (by kernel_rfl) (by kernel_rfl) ?_; (repeat (go_big_quiet_step ((with_reducible refine after_same (HR.out _))))); refine wpQuiet_nil ?_; intro wq hw'; obtain ⟨⟨wq2, hmq⟩, hw''⟩ := hw'; subst hw'')
          have HQ := Lib.hid (HMr.out.trans0 hmq)
          clear hmq
          go_wp2_with fail
          go_roundw
          case rel => exact ⟨1, by omega, by go_num, HQ.out⟩
          case measure => simp [intOf]
        · have hlt1 := HLT.out (j - 1) (by omega)
          have hcp := cell_after hglr (by rw [HMr.out.cell (p := ⟨g, j - 1, none⟩) hgl (by simp)]; exact HC2.out (j - 1) (by omega))
          have e1 : N.getD (j - 1 + 1) 0 = N.getD j 0 := by rw [show j - 1 + 1 = j by omega]
          rw [e1] at hlt1
          clear e1
          generalize N.getD j 0 = x at *
          generalize N.getD (j - 1) 0 = y at *
          have HR : Hid (∀ w, Calls Try.prog 21 #[.int .i64 m, .int .i64 (x : Int)] w fun e w' => e = .returned (.bool true) ∧ w = w') := Lib.hid (fun w => by rw [← HI.out]; exact RH.out _ w)
          have hpos : 0 < (j : Int) := by omega
          have hposN : 0 < j := by omega
          have hsub : IntKind.i64.wrap ((j : Int) - 1) = ((j - 1 : Nat) : Int) := by rw [IntWalk.i64_in _ (by omega)]; omega
          have hge : decide ((x : Int) ≤ (y : Int)) = false := by simp; omega
          have hq : j - 1 < n := by omega
          generalize j - 1 = q at *
          have hq' : (q : Int) < n := by omega
          go_wp2_with fail
          (refine wp_region_quiet_after (by kernel_rfl) (by kernel_rfl) ?_; (repeat (go_big_quiet_step ((with_reducible refine after_same (HR.out _))))); refine wpQuiet_nil ?_; intro wq hw'; obtain ⟨⟨wq2, hmq⟩, hw''⟩ := hw'; subst hw'')
          have HQ := Lib.hid (HMr.out.trans0 hmq)
          clear hmq
          go_wp2_with fail
          go_roundw
          case rel => exact ⟨j + 1, by omega, by go_num, HQ.out⟩
          case measure => simp [intOf]; omega
      · obtain rfl : j = n := by omega
        have HMr := Lib.hid hmod
        clear hmod
        go_wp2_with fail
        refine (AW.out _).mono ?_
        rintro e w2 ⟨rfl, hm2⟩
        go_wp2_with fail
        refine (HC.out _).mono ?_
        rintro e w3 ⟨rfl, rfl⟩
        go_wp2_with fail
        refine (RH.out _ _).mono ?_
        rintro e w3 ⟨rfl, rfl⟩
        go_wp2_with fail
        refine (SC.out _).mono ?_
        rintro e w3 ⟨rfl, hm3⟩
        go_wp2_with fail
        refine (EC.out _).mono ?_
        rintro e w4 ⟨rfl, hm4⟩
        go_wp2_with fail
        refine (RE.out _).mono ?_
        rintro e w5 ⟨rfl, rfl⟩
        go_wp2_with fail
        go_ret
        exact ⟨ret_bool (by first | rfl | simp), ((((HM1.out.trans0 HMr.out).trans0 hm2).trans0 hm3).trans0 hm4).below0⟩

theorem councilCounts_calls (w : World) (m : Int) (hm : (Lit.int .i64 m).wf = true) (n : Int) (hn : (Lit.int .i64 n).wf = true) (k : Int) (hk : (Lit.int .i64 k).wf = true) :
    Calls Try.prog 5 #[.int .i64 m, .int .i64 n, .int .i64 k] w fun e w' => e = .returned (.bool true) ∧ Below w.heap.size w w' := counts_calls m n k w
end Go.Proofs.Ytkgedgihjmhogaa.Council
