/- The contracts of the law's Track (a track as the document has it) and of few. -/
import Derived.Test.YtcbafomhifdgpaaKe7
import Derived.Test.YtcbafomhifdgpaaKe2
namespace Go.Proofs.Ytcbafomhifdgpaa.Ke
open Go.RowKit Mem Bits
set_option linter.unusedSimpArgs false
set_option linter.unusedVariables false
set_option maxRecDepth 100000
attribute [local go_sem ↓] Go.wp_at_zero Go.wp_at_succ
set_option maxHeartbeats 4000000 in
theorem track_calls (t : Trk) (v : Value) (hn : t.rs.length ≤ 1000000) (w : World) (hf : RunsAt w v t.rs) :
    Calls Try.prog 16 #[trkV t v] w fun e w' => ∃ v', e = .returned (trkV t v') ∧ Mod w w' [] ∧ RunsAt w' v' t.rs := by
  obtain ⟨xs, hxs, hint, hcase⟩ := runs_split hf
  have hn2 : xs.length ≤ 1000000 := by have : xs.length = t.rs.length := by rw [← hxs, List.length_map]
                                       omega
  have hn' : (xs.length : Int) ≤ 1000000 := by omega
  have hb0 := ((Blk.new w #[.int .i64 t.c, .int .i64 t.st, .int .i64 t.lo, v] 24).alloc (.cells #[.int .i64 0, .int .i64 0, .int .i64 0, .slice none 0 0] 34)).alloc (.cells #[.int .i64 t.c, .int .i64 t.st, .int .i64 t.lo, .slice none 0 0] 34)
  have hb1 := (Blk.new (w.alloc (.cells #[.int .i64 t.c, .int .i64 t.st, .int .i64 t.lo, v] 24)) #[.int .i64 0, .int .i64 0, .int .i64 0, .slice none 0 0] 34).alloc (.cells #[.int .i64 t.c, .int .i64 t.st, .int .i64 t.lo, .slice none 0 0] 34)
  have hb2 := Blk.new ((w.alloc (.cells #[.int .i64 t.c, .int .i64 t.st, .int .i64 t.lo, v] 24)).alloc (.cells #[.int .i64 0, .int .i64 0, .int .i64 0, .slice none 0 0] 34)) #[.int .i64 t.c, .int .i64 t.st, .int .i64 t.lo, .slice none 0 0] 34
  rw [World.size_alloc, World.size_alloc] at hb2
  rw [World.size_alloc] at hb1
  have HB0 := Lib.hid hb0
  have HB1 := Lib.hid hb1
  have HB2 := Lib.hid hb2
  have HM0 := Lib.hid ((((Mod.refl w []).alloc (.cells #[.int .i64 t.c, .int .i64 t.st, .int .i64 t.lo, v] 24)).alloc (.cells #[.int .i64 0, .int .i64 0, .int .i64 0, .slice none 0 0] 34)).alloc (.cells #[.int .i64 t.c, .int .i64 t.st, .int .i64 t.lo, .slice none 0 0] 34))
  have HINT := Lib.hid hint
  have HXS := Lib.hid hxs
  obtain ⟨i0, hi, hz0, hz1, hz2⟩ := info_parts info_run
  clear hb0 hb1 hb2 hint hxs
  rcases hcase with ⟨hnil, a0, cap, hsl⟩ | ⟨bb, off, cap, hsl, hcap, hcm, hrow⟩
  · subst hsl
    have HN := Lib.hid hnil
    clear hnil hf
    go_enter Try.func16, Try.ntmps16
    go_wp2_with fail
    go_loop [4] (fun v => v = .int .i64 0) (fun v => 0)
    case atStart => rfl
    case round =>
      subst hrel
      go_wp2_with fail
      refine bodyPost_ret (v := trkV t (.slice none 0 0)) (by simp [results, Try.results16, go_sem]) rfl ⟨_, rfl, ?_, .inl ⟨HN.out, none, 0, rfl⟩⟩
      exact (((Mod.refl _ _).alloc _).alloc _).alloc _
  · subst hsl
    have HROW := Lib.hid hrow
    clear hrow hf
    go_enter Try.func16, Try.ntmps16
    go_wp2_with fail
    have HSZ := Lib.hid HB2.out.lt
    have HSZ2 : Hid ((((w.alloc (.cells #[.int .i64 t.c, .int .i64 t.st, .int .i64 t.lo, .slice (some ⟨bb, off, none⟩) xs.length cap] 24)).alloc (.cells #[.int .i64 0, .int .i64 0, .int .i64 0, .slice none 0 0] 34)).alloc (.cells #[.int .i64 t.c, .int .i64 t.st, .int .i64 t.lo, .slice none 0 0] 34)).heap.size ≤ w.heap.size + 1 + 1 + 1) := Lib.hid (by simp)
    generalize ((w.alloc _).alloc _).alloc _ = W at HB0 HB1 HB2 HM0 HSZ HSZ2 ⊢
    have HBB : Hid (0 < xs.length → bb < w.heap.size) := Lib.hid (fun h => Ke.cell_lt (HROW.out 0 h 0 (by omega)))
    go_loopw [4] (fun vi wr => ∃ (i : Nat) (v : Value), i ≤ xs.length ∧ vi = .int .i64 (i : Int) ∧ Mod W wr [w.heap.size + 1 + 1] ∧ Blk wr (w.heap.size + 1 + 1) #[.int .i64 t.c, .int .i64 t.st, .int .i64 t.lo, v] 34 ∧ wr.ownsRow (w.heap.size + 1 + 1 + 1) 86 5 v i (flatR (xs.take i))) (fun vi _ => xs.length + 1 - (intOf vi).toNat)
    case atStart => exact ⟨0, .slice none 0 0, by omega, rfl, Mod.refl _ _, HB2.out, rfl, .inl ⟨rfl, rfl⟩⟩
    case round =>
      obtain ⟨i, v, hile, rfl, hm, hbx, hown⟩ := hrel
      have HM := Lib.hid hm
      have HBX := Lib.hid hbx
      have x3 : wr.cell? ⟨w.heap.size + 1 + 1, 3, none⟩ = some v := hbx.cell 3
      have xf : wr.frozen? ⟨w.heap.size + 1 + 1, 3, none⟩ = false := hbx.free 3
      have e3 : wr.cell? ⟨w.heap.size, 3, none⟩ = some (.slice (some ⟨bb, off, none⟩) xs.length cap) := (HB0.out.mod hm (by simp; omega)).cell 3
      have hsz : w.heap.size + 1 + 1 < wr.heap.size := Nat.lt_of_lt_of_le HSZ.out hm.size
      have HG := Lib.hid (own_ge hown)
      by_cases hlt : i < xs.length
      · have hlt' : (i : Int) < xs.length := by omega
        have hi0 : (0 : Int) ≤ (i : Int) := by omega
        have hcap0 : (xs.length : Int) ≤ cap := by omega
        have hbb := HBB.out (by omega)
        have hcs : ∀ c, c < 5 → wr.cell? ⟨bb, off + i * 5 + c, none⟩ = (runC' (xs[i]'hlt))[c]? := by
          intro c hc
          rw [← HROW.out i hlt c hc]
          have hW : W.cell? ⟨bb, off + i * 5 + c, none⟩ = w.cell? ⟨bb, off + i * 5 + c, none⟩ := HM0.out.cell (p := ⟨bb, off + i * 5 + c, none⟩) hbb (by simp)
          rw [← hW]
          exact hm.cell (p := ⟨bb, off + i * 5 + c, none⟩) (Nat.lt_of_lt_of_le hbb HM0.out.size) (by simp; omega)
        have HT : Hid (flatR (xs.take (i + 1)) = flatR (xs.take i) ++ runC' (xs[i]'hlt)) := Lib.hid (by
          rw [List.take_succ_eq_append_getElem hlt, flatR_snoc])
        have hpv := (HINT.out _ (List.getElem_mem hlt)).shape
        generalize xs[i]'hlt = x at *
        obtain ⟨r, pv⟩ := x
        dsimp only at hpv
        obtain ⟨pa, pcap, rfl, -⟩ := hpv
        have c0 := hcs 0 (by omega)
        have c1 := hcs 1 (by omega)
        have c2 := hcs 2 (by omega)
        have c3 := hcs 3 (by omega)
        have c4 := hcs 4 (by omega)
        simp only [Nat.add_zero, List.getElem?_cons_zero, List.getElem?_cons_succ] at c0 c1 c2 c3 c4
        generalize flatR (xs.take i) = F at *
        clear hm hbx hcs
        go_wp2_with fail
        refine He.wp_region_e 10 (fun w' => w'.cell? ⟨w.heap.size + 1 + 1, 3, none⟩ = some v ∧ w'.cell? ⟨w.heap.size, 3, none⟩ = some (.slice (some ⟨bb, off, none⟩) xs.length cap) ∧ w'.cell? ⟨bb, off + i * 5, none⟩ = some (.int .i64 r.b) ∧ w'.cell? ⟨bb, off + i * 5 + 1, none⟩ = some (.int .i64 r.st) ∧ w'.cell? ⟨bb, off + i * 5 + 2, none⟩ = some (.int .i64 r.s) ∧ w'.cell? ⟨bb, off + i * 5 + 3, none⟩ = some (.int .u64 r.seen) ∧ w'.cell? ⟨bb, off + i * 5 + 4, none⟩ = some (.slice pa r.ps.length pcap)) (by kernel_rfl) ⟨x3, e3, c0, c1, c2, c3, c4⟩ (fun hHeld => ?_)
        have hk1 : ∀ p u, wr.cell? p = some u → (wr.drew.alloc (.cells (runC' (r, .slice pa r.ps.length pcap)).toArray 86)).cell? p = some u := fun p u h => Ke.keepC (((Mod.refl wr []).drew).alloc _) h
        have HSZW : Hid (W.heap.size ≤ w.heap.size + 1 + 1 + 1) := Lib.hid HSZ2.out
        refine He.wpE_take (i := 0) (v := ?_) rfl (by kernel_rfl) (by kernel_rfl) (by kernel_rfl) (by kernel_rfl) (by kernel_rfl) (fun _ _ _ h => h) (by rfl) ?_ (by assumption) ?_
        rotate_left
        · (intro w' hSw; (try dsimp only at hSw); go_simp; first | done | with_reducible rfl)
        try simp only [List.getElem_toArray, List.getElem_cons_succ, List.getElem_cons_zero, Act.put, List.setIfInBounds_toArray, List.set_cons_zero, List.set_cons_succ]
        refine He.wpE_take (i := 1) (v := ?_) rfl (by kernel_rfl) (by kernel_rfl) (by kernel_rfl) (by kernel_rfl) (by kernel_rfl) (fun _ _ _ h => h) (by rfl) ?_ (by assumption) ?_
        rotate_left
        · (intro w' hSw; (try dsimp only at hSw); go_simp; first | done | with_reducible rfl)
        try simp only [List.getElem_toArray, List.getElem_cons_succ, List.getElem_cons_zero, Act.put, List.setIfInBounds_toArray, List.set_cons_zero, List.set_cons_succ]
        refine He.wpE_take (i := 2) (v := ?_) rfl (by kernel_rfl) (by kernel_rfl) (by kernel_rfl) (by kernel_rfl) (by kernel_rfl) (fun _ _ _ h => h) (by rfl) ?_ (by assumption) ?_
        rotate_left
        · (intro w' hSw; (try dsimp only at hSw); go_simp; first | done | with_reducible rfl)
        try simp only [List.getElem_toArray, List.getElem_cons_succ, List.getElem_cons_zero, Act.put, List.setIfInBounds_toArray, List.set_cons_zero, List.set_cons_succ]
        refine He.wpE_take (i := 3) (v := ?_) rfl (by kernel_rfl) (by kernel_rfl) (by kernel_rfl) (by kernel_rfl) (by kernel_rfl) (fun _ _ _ h => h) (by rfl) ?_ (by assumption) ?_
        rotate_left
        · (intro w' hSw; (try dsimp only at hSw); go_simp; first | done | with_reducible rfl)
        try simp only [List.getElem_toArray, List.getElem_cons_succ, List.getElem_cons_zero, Act.put, List.setIfInBounds_toArray, List.set_cons_zero, List.set_cons_succ]
        refine He.wpE_take (i := 4) (v := ?_) rfl (by kernel_rfl) (by kernel_rfl) (by kernel_rfl) (by kernel_rfl) (by kernel_rfl) (fun _ _ _ h => h) (by rfl) ?_ (by assumption) ?_
        rotate_left
        · (intro w' hSw; (try dsimp only at hSw); go_simp; first | done | with_reducible rfl)
        try simp only [List.getElem_toArray, List.getElem_cons_succ, List.getElem_cons_zero, Act.put, List.setIfInBounds_toArray, List.set_cons_zero, List.set_cons_succ]
        refine He.wpE_take (i := 5) (v := ?_) rfl (by kernel_rfl) (by kernel_rfl) (by kernel_rfl) (by kernel_rfl) (by kernel_rfl) (fun _ _ _ h => h) (by rfl) ?_ (by assumption) ?_
        rotate_left
        · (intro w' hSw; (try dsimp only at hSw); go_simp; first | done | with_reducible rfl)
        try simp only [List.getElem_toArray, List.getElem_cons_succ, List.getElem_cons_zero, Act.put, List.setIfInBounds_toArray, List.set_cons_zero, List.set_cons_succ]
        refine He.wpE_take (i := 6) (v := ?_) rfl (by kernel_rfl) (by kernel_rfl) (by kernel_rfl) (by kernel_rfl) (by kernel_rfl) (fun _ _ _ h => h) (by rfl) ?_ (by assumption) ?_
        rotate_left
        · (intro w' hSw; (try dsimp only at hSw); go_simp; first | done | with_reducible rfl)
        try simp only [List.getElem_toArray, List.getElem_cons_succ, List.getElem_cons_zero, Act.put, List.setIfInBounds_toArray, List.set_cons_zero, List.set_cons_succ]
        refine He.wpE_one (i := 7) (by kernel_rfl) rfl (by rfl) (fun K hK => ?_)
        go_simp
        refine hK.out _ _ (fun _ => ⟨hk1 _ _ x3, hk1 _ _ e3, hk1 _ _ c0, hk1 _ _ c1, hk1 _ _ c2, hk1 _ _ c3, hk1 _ _ c4⟩) ?_
        clear hK K
        try simp only [Act.put, List.setIfInBounds_toArray, List.set_cons_zero, List.set_cons_succ]
        refine He.wpE_one (i := 8) (by kernel_rfl) rfl (by rfl) (fun K hK => ?_)
        refine wp_append_lies _ _ _ _ (by rfl) (w.heap.size + 1 + 1 + 1) 86 i0 _ 5 56 Try.underlying32 hi hz0 hz1 hz2 rfl (by omega) v i F (by rfl) ((hown.drew).alloc _)
              ⟨wr.heap.size, 0, none⟩ 1 1 (runC' (r, .slice pa r.ps.length pcap)) (by rfl) (by rfl) (World.news_of_block (cs := (runC' (r, .slice pa r.ps.length pcap)).toArray) (t := 86) (fr := (0, 0)) (heap_alloc_new wr.drew _)) (by simp [Value.oneCell'])
              (by omega) (by unfold maxLen; omega) (by omega) (by simp; omega) (wr.heap.size + 1) (by simp) ?_
        intro gg gcap w1 hown1 hgrow hat hlt2
        have hne : ∀ g, g < w.heap.size + 1 + 1 + 1 → some g ≠ v.ownBlock := fun g hg h => by have := HG.out _ h.symm; omega
        have HBX1 := Lib.hid (Rw.blk_grown (((HBX.out.drew).alloc (.cells (runC' (r, .slice pa r.ps.length pcap)).toArray 86))) hgrow (hne _ (by omega)))
        have HM1 := Lib.hid ((((HM.out.drew).alloc (.cells (runC' (r, .slice pa r.ps.length pcap)).toArray 86))).grown hgrow (fun k hk => .inr (by have := HG.out k hk; have := HSZW.out; omega)))
        have hk2 : ∀ p u, wr.cell? p = some u → p.block < w.heap.size + 1 + 1 + 1 → w1.cell? p = some u := fun p u h hb => Rw.keepG hgrow (hk1 p u h) (hne _ hb)
        have hS1 := And.intro (hk2 _ _ x3 (by simp)) (And.intro (hk2 _ _ e3 (by simp; omega)) (And.intro (hk2 _ _ c0 (by simp; omega)) (And.intro (hk2 _ _ c1 (by simp; omega)) (And.intro (hk2 _ _ c2 (by simp; omega)) (And.intro (hk2 _ _ c3 (by simp; omega)) (hk2 _ _ c4 (by simp; omega)))))))
        refine hK.out _ _ (fun _ => hS1) ?_
        clear hK K hk1 hk2
        have x31 : w1.cell? ⟨w.heap.size + 1 + 1, 3, none⟩ = some v := HBX1.out.cell 3
        have xf1 : w1.frozen? ⟨w.heap.size + 1 + 1, 3, none⟩ = false := HBX1.out.free 3
        try simp only [Act.put, List.setIfInBounds_toArray, List.set_cons_zero, List.set_cons_succ]
        refine He.wpE_take (i := 9) (v := ?_) rfl (by kernel_rfl) (by kernel_rfl) (by kernel_rfl) (by kernel_rfl) (by kernel_rfl) (fun _ _ _ h => h) (by rfl) ?_ (by assumption) ?_
        rotate_left
        · (intro w' hSw; (try dsimp only at hSw); go_simp; first | done | with_reducible rfl)
        try simp only [List.getElem_toArray, List.getElem_cons_succ, List.getElem_cons_zero, Act.put, List.setIfInBounds_toArray, List.set_cons_zero, List.set_cons_succ]
        refine He.wpE_one (i := 10) (by kernel_rfl) rfl (by rfl) (fun K hK => ?_)
        go_simp
        refine hK.out _ _ (fun h => absurd rfl h) ?_
        clear hK K
        refine He.wpE_done (by kernel_rfl) ?_
        try simp only [Act.put, List.setIfInBounds_toArray, List.set_cons_zero, List.set_cons_succ]
        go_wp2_with fail
        go_roundw
        case rel =>
          refine ⟨i + 1, _, by omega, by go_num, HM1.out.setCell (by simp) _, HBX1.out.set 3 _, ?_⟩
          rw [HT.out]
          exact own_mod hown1 ((Mod.refl w1 [w.heap.size + 1 + 1]).setCell (by simp) _) (fun k hk => by simp [Value.ownBlock] at hk; subst hk; rcases hat with h | h <;> simp <;> first | (have := HG.out _ h; omega) | omega)
        case measure => simp [intOf]; omega
      · obtain rfl : i = xs.length := by omega
        obtain ⟨va, vc, rfl⟩ := Rw.own_slice hown
        obtain ⟨y0, y1, y2, y3⟩ := Blk4c HBX.out
        have hb1 := HB1.out.mod HM.out (by simp)
        obtain ⟨r0, r1, r2, r3⟩ := Blk4c hb1
        have f0 := hb1.free 0
        have f1 := hb1.free 1
        have f2 := hb1.free 2
        have f3 := hb1.free 3
        have hge : (xs.length : Int) ≤ (xs.length : Int) := by omega
        rw [List.take_length] at hown
        have HINT' := Lib.hid (fun x hx => (HINT.out x hx).mod HM0.out)
        clear hb1
        go_wp2_with fail
        have hms : Mod wr ((((wr.setCell ⟨w.heap.size + 1, 0, none⟩ (.int .i64 t.c)).setCell ⟨w.heap.size + 1, 1, none⟩ (.int .i64 t.st)).setCell ⟨w.heap.size + 1, 2, none⟩ (.int .i64 t.lo)).setCell ⟨w.heap.size + 1, 3, none⟩ (.slice va xs.length vc)) [w.heap.size + 1] :=
          ((((Mod.refl wr [w.heap.size + 1]).setCell (by simp) _).setCell (by simp) _).setCell (by simp) _).setCell (by simp) _
        have HMF := (HM0.out.trans HM.out (R := []) (by simp; omega)).trans hms (by simp)
        refine bodyPost_ret (v := trkV t (.slice va xs.length vc)) (by simp [results, Try.results16, go_sem, r0, r1, r2, r3]) rfl ⟨_, rfl, HMF, ?_⟩
        have hr := runs_of_own (own_mod hown hms (fun k hk => by have := HG.out k hk; simp; omega)) (fun x hx => (HINT.out x hx).mod HMF)
        rw [HXS.out] at hr
        exact hr

def FewPost (t : Trk) (w : World) (e : Ending) (w' : World) : Prop := ∃ b, e = .returned (.bool b) ∧ Mod w w' [] ∧ (b = true → t.rs.length ≤ 100)
set_option maxHeartbeats 2000000 in
theorem few_calls (t : Trk) (v : Value) (hn : t.rs.length ≤ 140737488351232) (hp : ∀ r ∈ t.rs, r.ps.length ≤ 140737488351232) (w : World) (hf : RunsAt w v t.rs) :
    Calls Try.prog 12 #[trkV t v] w (FewPost t w) := by
  have hn' : (t.rs.length : Int) ≤ 140737488351232 := by omega
  have HB0 := Lib.hid (Blk.new w #[.int .i64 t.c, .int .i64 t.st, .int .i64 t.lo, v] 24)
  have HM0 := Lib.hid ((Mod.refl w []).alloc (.cells #[.int .i64 t.c, .int .i64 t.st, .int .i64 t.lo, v] 24))
  have HI0 := Lib.hid (hf.mod HM0.out)
  have HP := Lib.hid hp
  obtain ⟨sa, cap, rfl, -⟩ := hf.shape
  clear hf hp
  by_cases h1 : 100 < t.rs.length
  · have h1' : 100 < (t.rs.length : Int) := by omega
    clear h1
    go_enter Try.func12, Try.ntmps12
    go_wp2_with fail
    go_ret
    exact ⟨_, rfl, HM0.out, by simp⟩
  · have h1' : (t.rs.length : Int) ≤ 100 := by omega
    have H1 : Hid (t.rs.length ≤ 100) := Lib.hid (by omega)
    clear h1
    go_enter Try.func12, Try.ntmps12
    go_wp2_with fail
    generalize w.alloc _ = W at HB0 HM0 HI0 ⊢
    obtain ⟨b0, b1, b2, b3⟩ := Blk4c HB0.out
    go_loop [3] (fun vi => ∃ i : Nat, i ≤ t.rs.length ∧ vi = .int .i64 (i : Int)) (fun vi => t.rs.length + 1 - (intOf vi).toNat)
    case atStart => exact ⟨0, Nat.zero_le _, rfl⟩
    case round =>
      obtain ⟨i, hi, rfl⟩ := hrel
      by_cases hlt : i < t.rs.length
      · have hlt' : (i : Int) < t.rs.length := by omega
        obtain ⟨bb, off, hsa, hcap, hcm, hc⟩ : ∃ bb off, sa = some ⟨bb, off, none⟩ ∧ t.rs.length ≤ cap ∧ cap ≤ maxLen ∧ ∀ i (hi : i < t.rs.length), RunC W bb (off + i * 5) t.rs[i] := by
          obtain ⟨a', cap', e1, e2⟩ := HI0.out.shape
          obtain ⟨bb, off, e3, e4, e5, e6⟩ := e2 (by intro h; rw [h] at hlt; simp at hlt)
          injection e1 with e7 e8 e9
          subst e7 e9
          exact ⟨bb, off, e3, e4, e5, e6⟩
        subst hsa
        have hci := hc i hlt
        have hlr := HP.out _ (List.getElem_mem hlt)
        generalize t.rs[i]'hlt = r at *
        obtain ⟨d0, d1, d2, d3, pv, d4, d5⟩ := hci
        obtain ⟨sp, cp, rfl, hsp⟩ := d5.shape
        have hlr' : (r.ps.length : Int) ≤ 140737488351232 := by omega
        clear d5 hsp hc
        by_cases hx : 100 < (r.ps.length : Int)
        · go_wp2_with fail
          go_ret
          exact ⟨_, rfl, HM0.out, by simp⟩
        · have hx' : (r.ps.length : Int) ≤ 100 := by omega
          clear hx
          go_wp2_with fail
          go_round
          case rel => exact ⟨i + 1, by omega, by go_num⟩
          case measure => simp [intOf]; omega
      · have hge : (t.rs.length : Int) ≤ i := by omega
        go_wp2_with fail
        go_ret
        exact ⟨_, rfl, HM0.out, fun _ => H1.out⟩
end Go.Proofs.Ytcbafomhifdgpaa.Ke
