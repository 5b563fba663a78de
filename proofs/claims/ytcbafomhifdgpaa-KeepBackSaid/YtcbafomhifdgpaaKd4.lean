/- The contract of the closure that reads the runs. -/
import Derived.Test.YtcbafomhifdgpaaKd3
namespace Go.Proofs.Ytcbafomhifdgpaa.Ke
open Go.RowKit Mem Bits
set_option linter.unusedSimpArgs false
set_option linter.unusedVariables false
set_option maxRecDepth 100000
attribute [local go_sem ↓] Go.wp_at_zero Go.wp_at_succ
theorem info_runA : (Try.prog.info? 73).map (fun i => (i.zero, i.size, i.bytes)) = some (some (.agg #[.int .i64 0, .int .i64 0, .int .i64 0, .int .u64 0, .slice none 0 0]), 5, 56) := by kernel_rfl
def EachPost (g n5 : Nat) (p : St) (m : Nat) (c st lo : Int) (w : World) (e : Ending) (w' : World) : Prop :=
  ∃ v, e = .returned (.tuple #[]) ∧ Mod w w' [g, n5] ∧ TapeAt w' g (runsK p m).2.1 (runsK p m).2.2 ∧ Blk w' n5 #[.int .i64 c, .int .i64 st, .int .i64 lo, v] 24 ∧ ∀ w'' R, Mod w' w'' R → (∀ r ∈ R, r < w.heap.size) → RunsAt w'' v (runsK p m).1

set_option maxHeartbeats 4000000 in
theorem each_calls (g n4 n5 n6 : Nat) (p : St) (mi c st lo : Int) (hmi : mi ≤ 64) (w : World) (hs : p.1.size ≤ 140737488355328) (hb : TapeAt w g p.1 p.2) (h4 : w.cell? ⟨n4, 0, none⟩ = some (.pointer (some ⟨g, 0, none⟩))) (h6 : w.cell? ⟨n6, 0, none⟩ = some (.int .i64 mi))
    (h5 : Blk w n5 #[.int .i64 c, .int .i64 st, .int .i64 lo, .slice none 0 0] 24) (e45 : n4 ≠ n5) (e4g : n4 ≠ g) (e5g : n5 ≠ g) (e65 : n6 ≠ n5) :
    Calls Try.prog 46 #[.func (.func 47) #[] #[], .pointer (some ⟨n6, 0, none⟩), .pointer (some ⟨n5, 0, none⟩), .pointer (some ⟨n4, 0, none⟩)] w (EachPost g n5 p mi.toNat c st lo w) := by
  obtain ⟨i0, hi, hz0, hz1, hz2⟩ := info_parts info_runA
  have HT0 := Lib.hid hb
  have HX0 := Lib.hid h5
  have H4 := Lib.hid h4
  have hg0 := hb.lt
  have h50 := h5.lt
  have h40 := cell_lt h4
  clear hb h5 h4
  go_enter Try.func46, Try.ntmps46
  go_wp2_with fail
  go_loopw [6] (fun vi wr => ∃ (i : Nat) (v : Value) (xs : List (Run × Value)), i ≤ mi.toNat ∧ vi = .int .i64 (i : Int) ∧ Mod w wr [g, n5] ∧ TapeAt wr g (runsK p i).2.1 (runsK p i).2.2 ∧ Blk wr n5 #[.int .i64 c, .int .i64 st, .int .i64 lo, v] 24 ∧ xs.map (·.1) = (runsK p i).1 ∧ (∀ x ∈ xs, IntsT w.heap.size wr x.2 x.1.ps) ∧ wr.ownsRow w.heap.size 73 5 v i (flatR xs)) (fun vi _ => 70 - (intOf vi).toNat)
  case atStart => exact ⟨0, .slice none 0 0, [], Nat.zero_le _, rfl, Mod.refl _ _, HT0.out, HX0.out, rfl, by simp, rfl, .inl ⟨rfl, rfl⟩⟩
  case round =>
    obtain ⟨i, v, xs, hile, rfl, hm, ht, hx, hxs, hints, hown⟩ := hrel
    have HM := Lib.hid hm
    have HT := Lib.hid ht
    have HBX := Lib.hid hx
    have HXS := Lib.hid hxs
    have HINT := Lib.hid hints
    have HOWN := Lib.hid hown
    have HG := Lib.hid (own_ge hown)
    have hzr := hm.size
    have hrs := runsK_size p i
    by_cases hlt : (i : Int) < mi
    · have HK : Hid (runsK p (i + 1) = ((runsK p i).1 ++ [(runK (runsK p i).2).1], (runK (runsK p i).2).2)) := Lib.hid rfl
      have RC := Lib.hid (fun w hb => read_calls g (runsK p i).2 w (by omega) hb)
      have x3 := hx.cell 3
      have xf := hx.free 3
      have y4 : wr.cell? ⟨n4, 0, none⟩ = some (.pointer (some ⟨g, 0, none⟩)) := (hm.cell (p := ⟨n4, 0, none⟩) h40 (by simp; omega)).trans H4.out
      simp at x3
      clear hm ht hx hxs hints hown hrs
      generalize (runsK p i).2 = q at *
      generalize (runsK p i).1 = L at *
      go_wp2_with fail
      refine He.wp_region_e 8 (fun w' => w'.cell? ⟨n5, 3, none⟩ = some v ∧ w'.cell? ⟨n4, 0, none⟩ = some (.pointer (some ⟨g, 0, none⟩))) (by kernel_rfl) ⟨x3, y4⟩ (fun S0 => ?_)
      refine He.wpE_take (i := 0) (v := ?_) rfl (by kernel_rfl) (by kernel_rfl) (by kernel_rfl) (by kernel_rfl) (by kernel_rfl) (fun _ _ _ h => h) (by rfl) ?_ (by assumption) ?_
      rotate_left
      · (intro w' hSw; (try dsimp only at hSw); go_simp; first | done | with_reducible rfl)
      try simp only [List.getElem_toArray, List.getElem_cons_succ, List.getElem_cons_zero, Act.put, List.setIfInBounds_toArray, List.set_cons_zero, List.set_cons_succ]
      refine He.wpE_take (i := 1) (v := ?_) rfl (by kernel_rfl) (by kernel_rfl) (by kernel_rfl) (by kernel_rfl) (by kernel_rfl) (fun _ _ _ h => h) (by rfl) ?_ (by assumption) ?_
      rotate_left
      · (intro w' hSw; (try dsimp only at hSw); go_simp; first | done | with_reducible rfl)
      try simp only [List.getElem_toArray, List.getElem_cons_succ, List.getElem_cons_zero, Act.put, List.setIfInBounds_toArray, List.set_cons_zero, List.set_cons_succ]
      refine He.wpE_take (i := 2) (v := ?_) rfl (by kernel_rfl) (by kernel_rfl) (by kernel_rfl) (by kernel_rfl) (by kernel_rfl) (fun _ _ _ h => h) (by rfl) ?_ (by assumption) ?_
      rotate_left
      · (intro w' hSw; (try dsimp only at hSw); go_simp; first | done | with_reducible rfl)
      try simp only [List.getElem_toArray, List.getElem_cons_succ, List.getElem_cons_zero, Act.put, List.setIfInBounds_toArray, List.set_cons_zero, List.set_cons_succ]
      refine He.wpE_take (i := 3) (v := ?_) rfl (by kernel_rfl) (by kernel_rfl) (by kernel_rfl) (by kernel_rfl) (by kernel_rfl) (fun _ _ _ h => h) (by rfl) ?_ (by assumption) ?_
      rotate_left
      · (intro w' hSw; (try dsimp only at hSw); go_simp; first | done | with_reducible rfl)
      try simp only [List.getElem_toArray, List.getElem_cons_succ, List.getElem_cons_zero, Act.put, List.setIfInBounds_toArray, List.set_cons_zero, List.set_cons_succ]
      refine He.wpE_one (i := 4) (by kernel_rfl) rfl (by rfl) (fun K hK => ?_)
      go_simp
      (with_reducible refine (RC.out _ ?_).mono ?_)
      · exact Blk.drew HT.out
      rintro e w1 ⟨pv, rfl, hm1, ht1, hi1⟩
      have S1 : w1.cell? ⟨n5, 3, none⟩ = some v ∧ w1.cell? ⟨n4, 0, none⟩ = some (.pointer (some ⟨g, 0, none⟩)) := ⟨(hm1.cell (p := ⟨n5, 3, none⟩) (cell_lt S0.1) (by simp; omega)).trans S0.1, (hm1.cell (p := ⟨n4, 0, none⟩) (cell_lt S0.2) (by simp; omega)).trans S0.2⟩
      have HM1 := Lib.hid (HM.out.drew.trans hm1 (by simp))
      have HT1 := Lib.hid ht1
      have HB1 := Lib.hid (HBX.out.drew.mod hm1 (by simp; omega))
      have HO1 := Lib.hid (own_mod HOWN.out.drew hm1 (fun k hk => by have := HG.out k hk; simp; omega))
      have hni : ∀ k cs, Blk wr k cs 3 → Blk w1 k cs 3 := fun k cs h => Blk.mod (w := wr.drew) h hm1 (by rw [List.mem_singleton]; rintro rfl; have := blk_ne h HT.out; exact absurd this (by decide))
      have HI1 := Lib.hid (fun x hx => (HINT.out x hx).keep hni)
      have HN1 := Lib.hid (hi1.low (N' := w.heap.size) hzr)
      have hzw : wr.heap.size ≤ w1.heap.size := hm1.size
      obtain ⟨pa, pc, hpv, -⟩ := hi1.at.shape
      subst hpv
      refine hK.out _ _ (fun _ => S1) ?_
      clear hK K hm1 ht1 hi1 HM HT HBX HOWN HINT hni S0
      try simp only [Act.put, List.setIfInBounds_toArray, List.set_cons_zero, List.set_cons_succ]
      have HL := Lib.hid (flatR_snoc xs ((runK q).1, .slice pa (runK q).1.ps.length pc))
      have hlx : xs.length = i := by
        have h1 := (runsK_ok p i).2
        have h2 : L.length = i := by
          rw [← HXS.out, List.length_map]
          have := HO1.out.1
          have h5 := congrArg List.length (show (xs.map runC').flatten = flatR xs from rfl)
          rw [Rw.flat_len (n := 5) _ (by intro r hr; obtain ⟨x, _, rfl⟩ := List.mem_map.1 hr; rfl), List.length_map] at h5
          omega
        rw [← HXS.out, List.length_map] at h2; exact h2
      have HLX := Lib.hid hlx
      clear hlx
      generalize flatR xs = F at *
      generalize hR : (runK q).1 = R at *
      have HR := Lib.hid hR
      clear hR
      have hk1 : ∀ p' u, w1.cell? p' = some u → (w1.alloc (.cells #[.int .i64 R.b, .int .i64 R.st, .int .i64 R.s, .int .u64 R.seen, .slice pa R.ps.length pc] 73)).cell? p' = some u := fun p' u h => keepC ((Mod.refl w1 []).alloc _) h
      refine He.wpE_one (i := 5) (by kernel_rfl) rfl (by rfl) (fun K hK => ?_)
      go_simp
      refine hK.out _ _ (fun _ => ⟨hk1 _ _ S1.1, hk1 _ _ S1.2⟩) ?_
      clear hK K
      try simp only [Act.put, List.setIfInBounds_toArray, List.set_cons_zero, List.set_cons_succ]
      refine He.wpE_one (i := 6) (by kernel_rfl) rfl (by rfl) (fun K hK => ?_)
      refine wp_append_lies _ _ _ _ (by rfl) w.heap.size 73 i0 _ 5 56 Try.underlying22 hi hz0 hz1 hz2 rfl (by omega) v i F (by rfl) (HO1.out.alloc _)
            ⟨w1.heap.size, 0, none⟩ 1 1 [.int .i64 R.b, .int .i64 R.st, .int .i64 R.s, .int .u64 R.seen, .slice pa R.ps.length pc] (by rfl) (by rfl) (World.news_of_block (cs := #[.int .i64 R.b, .int .i64 R.st, .int .i64 R.s, .int .u64 R.seen, .slice pa R.ps.length pc]) (t := 73) (fr := (0, 0)) (heap_alloc_new w1 _)) (by simp [Value.oneCell'])
            (by omega) (by unfold maxLen; omega) (by omega) (by simp; omega) (w1.heap.size + 1) (by simp) ?_
      intro gg gcap w2 hown1 hgrow hat hlt2
      have hne : ∀ k, k < w.heap.size → some k ≠ v.ownBlock := fun k hk h => by have := HG.out _ h.symm; omega
      have HB2 := Lib.hid (Rw.blk_grown (HB1.out.alloc (.cells #[.int .i64 R.b, .int .i64 R.st, .int .i64 R.s, .int .u64 R.seen, .slice pa R.ps.length pc] 73)) hgrow (hne _ (by omega)))
      have HT2 := Lib.hid (show TapeAt w2 g _ _ from Rw.blk_grown (Blk.alloc HT1.out (.cells #[.int .i64 R.b, .int .i64 R.st, .int .i64 R.s, .int .u64 R.seen, .slice pa R.ps.length pc] 73)) hgrow (hne _ (by omega)))
      have HM2 := Lib.hid ((HM1.out.weak (R' := [g, n5]) (by intro r hr; simp at hr; rcases hr with rfl | rfl <;> simp)).alloc (.cells #[.int .i64 R.b, .int .i64 R.st, .int .i64 R.s, .int .u64 R.seen, .slice pa R.ps.length pc] 73) |>.grown hgrow (fun k hk => .inr (HG.out k hk)))
      have hni2 : ∀ k cs, Blk w1 k cs 3 → Blk w2 k cs 3 := fun k cs h => Rw.blk_grown (h.alloc (.cells #[.int .i64 R.b, .int .i64 R.st, .int .i64 R.s, .int .u64 R.seen, .slice pa R.ps.length pc] 73)) hgrow (fun e => by
        obtain ⟨_, ⟨rfl, _⟩ | ⟨gb, cap, cur, rfl, _, hb, _⟩⟩ := HO1.out
        · cases e
        · have : k = gb := by simpa [Value.ownBlock] using e
          subst this
          have := blk_ne h (show Blk w1 k cur 73 from hb); exact absurd this (by decide))
      have HI2 := Lib.hid (fun x hx => (HI1.out x hx).keep hni2)
      have HN2 := Lib.hid (HN1.out.keep hni2)
      have S2 := And.intro (HB2.out.cell 3) (Rw.keepG hgrow (hk1 _ _ S1.2) (hne _ (by show n4 < _; omega)))
      refine hK.out _ _ (fun _ => S2) ?_
      have x31 : w2.cell? ⟨n5, 3, none⟩ = some v := HB2.out.cell 3
      have xf1 : w2.frozen? ⟨n5, 3, none⟩ = false := HB2.out.free 3
      clear hK K hk1 HI1 HN1 hni2 S1
      try simp only [Act.put, List.setIfInBounds_toArray, List.set_cons_zero, List.set_cons_succ]
      refine He.wpE_take (i := 7) (v := ?_) rfl (by kernel_rfl) (by kernel_rfl) (by kernel_rfl) (by kernel_rfl) (by kernel_rfl) (fun _ _ _ h => h) (by rfl) ?_ (by assumption) ?_
      rotate_left
      · (intro w' hSw; (try dsimp only at hSw); go_simp; first | done | with_reducible rfl)
      try simp only [List.getElem_toArray, List.getElem_cons_succ, List.getElem_cons_zero, Act.put, List.setIfInBounds_toArray, List.set_cons_zero, List.set_cons_succ]
      refine He.wpE_one (i := 8) (by kernel_rfl) rfl (by rfl) (fun K hK => ?_)
      go_simp
      refine hK.out _ _ (fun h => absurd rfl h) ?_
      clear hK K
      refine He.wpE_done (by kernel_rfl) ?_
      try simp only [Act.put, List.setIfInBounds_toArray, List.set_cons_zero, List.set_cons_succ]
      go_wp2_with fail
      go_roundw
      case rel =>
        have hms : Mod w2 (w2.setCell ⟨n5, 3, none⟩ (.slice (some ⟨gg, 0, none⟩) (i + 1) gcap)) [n5] := (Mod.refl _ _).setCell (by simp) _
        have hni3 : ∀ k cs, Blk w2 k cs 3 → Blk (w2.setCell ⟨n5, 3, none⟩ (.slice (some ⟨gg, 0, none⟩) (i + 1) gcap)) k cs 3 := fun k cs h => Blk.mod h hms (by rw [List.mem_singleton]; rintro rfl; have := blk_ne h HB2.out; exact absurd this (by decide))
        refine ⟨i + 1, _, xs ++ [(R, .slice pa R.ps.length pc)], by omega, by go_num, HM2.out.trans hms (by simp), ?_, HB2.out.set 3 _, ?_, ?_, ?_⟩
        · rw [HK.out]; exact Blk.mod HT2.out hms (by simp; omega)
        · rw [HK.out, List.map_append, HXS.out]; rfl
        · intro x hx
          rcases List.mem_append.1 hx with hx | hx
          · exact (HI2.out x hx).keep hni3
          · rw [List.mem_singleton] at hx; subst hx; exact HN2.out.keep hni3
        · rw [HL.out]
          exact own_mod hown1 hms (fun k hk => by simp [Value.ownBlock] at hk; subst hk; rcases hat with h | h <;> simp <;> first | (have := HG.out _ h; omega) | omega)
      case measure => simp [intOf]; omega
    · have hge : mi ≤ (i : Int) := by omega
      have hii : i = mi.toNat := by omega
      have HF : Hid (∀ w'' R, Mod wr w'' R → (∀ r ∈ R, r < w.heap.size) → RunsAt w'' v (runsK p mi.toNat).1) := Lib.hid (fun w'' R m hR => by
        rw [← hii, ← hxs]
        have hl : xs.length = i := by
          have := hown.1
          have h5 := congrArg List.length (show (xs.map runC').flatten = flatR xs from rfl)
          rw [Rw.flat_len (n := 5) _ (by intro r hr; obtain ⟨x, _, rfl⟩ := List.mem_map.1 hr; rfl), List.length_map] at h5
          omega
        exact runs_of_own (base := w.heap.size) (e := 73) (by rw [hl]; exact own_mod hown m (fun k hk hm => by have := HG.out k hk; have := hR k hm; omega)) (fun x hx => ((hints x hx).mod m hR).at))
      have HTF : Hid (TapeAt wr g (runsK p mi.toNat).2.1 (runsK p mi.toNat).2.2) := Lib.hid (by rw [← hii]; exact ht)
      clear hii hm ht hx hxs hints hown hrs
      go_wp2_with fail
      go_end0
      exact ⟨v, rfl, HM.out, HTF.out, HBX.out, HF.out⟩
end Go.Proofs.Ytcbafomhifdgpaa.Ke
