/- The contract of keep.Read. -/
import Derived.Test.YtcbafomhifdgpaaKd4
import Derived.Deep.DeepCutAuto
namespace Go.Proofs.Ytcbafomhifdgpaa.Ke
open Go.RowKit Mem Bits
set_option linter.unusedSimpArgs false
set_option linter.unusedVariables false
set_option maxRecDepth 100000
attribute [local go_sem ↓] Go.wp_at_zero Go.wp_at_succ
def nxk : Nat → St → St
  | 0, p => p
  | k + 1, p => nx (nxk k p)
theorem nxk_size (k : Nat) (p : St) : (nxk k p).1.size ≤ p.1.size := by
  induction k with
  | zero => exact Nat.le_refl _
  | succ k ih => exact Nat.le_trans (nx_size _) ih
structure RdC (W : World) (g n4 : Nat) (p : St) (k : Nat) (γ : Option Nat) (w' : World) : Prop where
  md : Mod W w' [g]
  t : TapeAt w' g (nxk k p).1 (nxk k p).2
  x : w'.cell? ⟨n4, 0, none⟩ = some (.pointer (some ⟨g, 0, none⟩))
  al : ∀ q, γ = some q → W.heap.size ≤ q ∧ Blk w' q #[.int .i64 0, .int .i64 0, .int .i64 0, .slice none 0 0] 24
theorem RdC.call {W w' w'' : World} {g n4 : Nat} {p : St} {k : Nat} {γ : Option Nat} (h : RdC W g n4 p k γ w') (hg : g < W.heap.size) (hn : n4 ≠ g) (hm : Mod w' w'' [g]) (ht : TapeAt w'' g (nx (nxk k p)).1 (nx (nxk k p)).2) : RdC W g n4 p (k + 1) γ w'' :=
  ⟨h.md.trans hm (by simp), ht, (hm.cell (p := ⟨n4, 0, none⟩) (cell_lt h.x) (by simpa using hn)).trans h.x, fun q hq => ⟨(h.al q hq).1, (h.al q hq).2.mod hm (by have := (h.al q hq).1; simp; omega)⟩⟩
theorem RdC.alloc {W w' : World} {g n4 : Nat} {p : St} {k : Nat} (h : RdC W g n4 p k none w') : RdC W g n4 p k (some w'.heap.size) (w'.alloc (.cells #[.int .i64 0, .int .i64 0, .int .i64 0, .slice none 0 0] 24)) :=
  ⟨h.md.alloc _, Blk.alloc h.t _, keepC ((Mod.refl _ []).alloc _) h.x, fun q hq => by
    obtain rfl := Option.some.inj hq
    exact ⟨h.md.size, Blk.new _ _ _⟩⟩
theorem RdC.drew {W w' : World} {g n4 : Nat} {p : St} {k : Nat} {γ : Option Nat} (h : RdC W g n4 p k γ w') : RdC W g n4 p k γ w'.drew := ⟨h.md.drew, Blk.drew h.t, h.x, h.al⟩
structure CutP (W : World) (g n4 : Nat) (p : St) (c st lo : Int) (q : Nat) (wx : World) : Prop where
  md : Mod W wx [g]
  t : TapeAt wx g (nxk 3 p).1 (nxk 3 p).2
  x : wx.cell? ⟨n4, 0, none⟩ = some (.pointer (some ⟨g, 0, none⟩))
  ge : W.heap.size ≤ q
  b : Blk wx q #[.int .i64 c, .int .i64 st, .int .i64 lo, .slice none 0 0] 24
theorem RdC.put {W w' : World} {g n4 : Nat} {p : St} {q : Nat} (h : RdC W g n4 p 3 (some q) w') (hn : n4 < W.heap.size) (hg : g < W.heap.size) (c st lo : Int) :
    CutP W g n4 p c st lo q ((((w'.setCell ⟨q, 0, none⟩ (.int .i64 c)).setCell ⟨q, 1, none⟩ (.int .i64 st)).setCell ⟨q, 2, none⟩ (.int .i64 lo)).setCell ⟨q, 3, none⟩ (.slice none 0 0)) := by
  obtain ⟨h1, h2⟩ := h.al q rfl
  have hm : Mod w' ((((w'.setCell ⟨q, 0, none⟩ (.int .i64 c)).setCell ⟨q, 1, none⟩ (.int .i64 st)).setCell ⟨q, 2, none⟩ (.int .i64 lo)).setCell ⟨q, 3, none⟩ (.slice none 0 0)) [q] :=
    ((((Mod.refl w' [q]).setCell (by simp) _).setCell (by simp) _).setCell (by simp) _).setCell (by simp) _
  exact ⟨h.md.trans hm (by simp [h1]), Blk.mod h.t hm (by simp; omega), (hm.cell (p := ⟨n4, 0, none⟩) (cell_lt h.x) (by simp; omega)).trans h.x, h1, (((h2.set 0 _).set 1 _).set 2 _).set 3 _⟩
theorem RdC.put_new {W w' : World} {g n4 : Nat} {p : St} (h : RdC W g n4 p 3 none w') (c st lo : Int) :
    CutP W g n4 p c st lo w'.heap.size (w'.alloc (.cells #[.int .i64 c, .int .i64 st, .int .i64 lo, .slice none 0 0] 24)) :=
  ⟨h.md.alloc _, Blk.alloc h.t _, keepC ((Mod.refl _ []).alloc _) h.x, h.md.size, Blk.new _ _ _⟩

def ReadOut (s : ByteArray) (w : World) (e : Ending) (w' : World) : Prop :=
  ∃ v, e = .returned (.tuple #[trkV (outD s) v, .int .i64 (errD s)]) ∧ Mod w w' [] ∧ RunsAt w' v (outD s).rs

set_option maxHeartbeats 8000000 in
theorem kread_calls (s : ByteArray) (hs : s.size ≤ 140737488351232) (w : World) :
    Calls Try.prog 17 #[.string s] w (ReadOut s w) := by
  have AC := Lib.hid (fun w => at_calls s w)
  have NC := Lib.hid (fun k most mi hmi hm g w hb => number_calls g (nxk k (s, 0)) most mi hmi hm w (by have := nxk_size k (s, 0); dsimp only at this; omega) hb)
  have N1 := Lib.hid (NC.out 0 549755813888 549755813888 rfl (by decide))
  have N2 := Lib.hid (NC.out 1 9223372036854775807 9223372036854775807 rfl (by decide))
  have N3 := Lib.hid (NC.out 2 549755813888 549755813888 rfl (by decide))
  have N4 := Lib.hid (NC.out 3 64 64 rfl (by decide))
  have HC : Hid (limL (nv (nxk 0 (s, 0))) 549755813888 = (kT s).c ∧ limL (nv (nxk 1 (s, 0))) 9223372036854775807 = (kT s).st ∧ limL (nv (nxk 2 (s, 0))) 549755813888 = (kT s).lo ∧ limL (nv (nxk 3 (s, 0))) 64 = kM s) := Lib.hid ⟨rfl, rfl, rfl, rfl⟩
  obtain ⟨e1, e2, e3, e4⟩ := HC.out
  rw [e1] at N1
  rw [e2] at N2
  rw [e3] at N3
  rw [e4] at N4
  have HKT : Hid ((kT s).rs = (runsK (nxk 4 (s, 0)) (kM s).toNat).1 ∧ kQ s = (runsK (nxk 4 (s, 0)) (kM s).toNat).2) := Lib.hid ⟨rfl, rfl⟩
  have hM := limL_bd (nv (nxk 3 (s, 0))) 64
  rw [e4] at hM
  clear NC HC e1 e2 e3 e4
  go_enter Try.func17, Try.ntmps17
  go_wp2_with fail
  (with_reducible refine (AC.out _).mono ?_)
  rintro e w1 ⟨rfl, hm1, hb1⟩
  rw [World.size_alloc] at hb1 ⊢
  have HB0 := Lib.hid ((Blk.new w #[.int .i64 0, .int .i64 0, .int .i64 0, .slice none 0 0] 24).mod hm1 (by simp) |>.alloc (.cells #[.pointer (some ⟨w.heap.size + 1, 0, none⟩)] 87))
  have HT0 := Lib.hid (Blk.alloc hb1 (.cells #[.pointer (some ⟨w.heap.size + 1, 0, none⟩)] 87))
  have HM0 := Lib.hid ((((Mod.refl w []).alloc (.cells #[.int .i64 0, .int .i64 0, .int .i64 0, .slice none 0 0] 24)).trans0 hm1).alloc (.cells #[.pointer (some ⟨w.heap.size + 1, 0, none⟩)] 87))
  have HX0 := Lib.hid (Blk.new w1 #[.pointer (some ⟨w.heap.size + 1, 0, none⟩)] 87)
  have hg1 : w.heap.size + 1 < w1.heap.size := hb1.lt
  clear hm1 hb1 AC
  obtain ⟨W, hWd⟩ : ∃ W, W = w1.alloc (.cells #[.pointer (some ⟨w.heap.size + 1, 0, none⟩)] 87) := ⟨_, rfl⟩
  rw [← hWd] at HB0 HT0 HM0 HX0
  have HWD := Lib.hid hWd
  clear hWd
  have hW : w1.heap.size < W.heap.size := HX0.out.lt
  have x0 := HX0.out.cell 0
  simp at x0
  go_upto_region 2 with (fail)
  go_cut [5] (fun s5 wx => ∃ q, s5 = .pointer (some ⟨q, 0, none⟩) ∧ CutP W (w.heap.size + 1) w1.heap.size (s, 0) (kT s).c (kT s).st (kT s).lo q wx)
  case first =>
    rw [← HWD.out]
    have HC0 : RdC W (w.heap.size + 1) w1.heap.size (s, 0) 0 none W.drew := ⟨(Mod.refl _ _).drew, Blk.drew HT0.out, x0, fun q hq => by cases hq⟩
    refine He.wp_region_e 8 (fun w' => w'.cell? ⟨w1.heap.size, 0, none⟩ = some (.pointer (some ⟨w.heap.size + 1, 0, none⟩))) (by kernel_rfl) HC0.x (fun S0 => ?_)
    refine He.wpE_take (i := 0) (v := ?_) rfl (by kernel_rfl) (by kernel_rfl) (by kernel_rfl) (by kernel_rfl) (by kernel_rfl) (fun _ _ _ h => h) (by rfl) ?_ (by assumption) ?_
    rotate_left
    · (intro w' hSw; (try dsimp only at hSw); go_simp; first | done | with_reducible rfl)
    try simp only [List.getElem_toArray, List.getElem_cons_succ, List.getElem_cons_zero, Act.put, List.setIfInBounds_toArray, List.set_cons_zero, List.set_cons_succ]
    refine He.wpE_take (i := 2) (v := ?_) rfl (by kernel_rfl) (by kernel_rfl) (by kernel_rfl) (by kernel_rfl) (by kernel_rfl) (fun _ _ _ h => h) (by rfl) ?_ (by assumption) ?_
    rotate_left
    · (intro w' hSw; (try dsimp only at hSw); go_simp; first | done | with_reducible rfl)
    try simp only [List.getElem_toArray, List.getElem_cons_succ, List.getElem_cons_zero, Act.put, List.setIfInBounds_toArray, List.set_cons_zero, List.set_cons_succ]
    refine He.wpE_take (i := 4) (v := ?_) rfl (by kernel_rfl) (by kernel_rfl) (by kernel_rfl) (by kernel_rfl) (by kernel_rfl) (fun _ _ _ h => h) (by rfl) ?_ (by assumption) ?_
    rotate_left
    · (intro w' hSw; (try dsimp only at hSw); go_simp; first | done | with_reducible rfl)
    try simp only [List.getElem_toArray, List.getElem_cons_succ, List.getElem_cons_zero, Act.put, List.setIfInBounds_toArray, List.set_cons_zero, List.set_cons_succ]
    refine He.wpE_two (i := 1) (j := 7) (by kernel_rfl) rfl rfl (by rfl) (by rfl) (fun K hK => ?_) (fun K hK => ?_)
    · go_simp
      (with_reducible refine (N1.out _ _ ?_).mono ?_)
      · exact HC0.t
      rintro e wx1 ⟨rfl, hm_, ht_⟩
      have hc2 := HC0.call (by omega) (by omega) hm_ ht_
      have shc2 := hc2.x
      refine hK.out _ _ (fun _ => hc2.x) ?_
      clear hK K hm_ ht_
      try simp only [Act.put, List.setIfInBounds_toArray, List.set_cons_zero, List.set_cons_succ]
      refine He.wpE_two (i := 3) (j := 7) (by kernel_rfl) rfl rfl (by rfl) (by rfl) (fun K hK => ?_) (fun K hK => ?_)
      · go_simp
        (with_reducible refine (N2.out _ _ ?_).mono ?_)
        · exact hc2.t
        rintro e wx3 ⟨rfl, hm_, ht_⟩
        have hc4 := hc2.call (by omega) (by omega) hm_ ht_
        have shc4 := hc4.x
        refine hK.out _ _ (fun _ => hc4.x) ?_
        clear hK K hm_ ht_
        try simp only [Act.put, List.setIfInBounds_toArray, List.set_cons_zero, List.set_cons_succ]
        refine He.wpE_two (i := 5) (j := 7) (by kernel_rfl) rfl rfl (by rfl) (by rfl) (fun K hK => ?_) (fun K hK => ?_)
        · go_simp
          (with_reducible refine (N3.out _ _ ?_).mono ?_)
          · exact hc4.t
          rintro e wx5 ⟨rfl, hm_, ht_⟩
          have hc6 := hc4.call (by omega) (by omega) hm_ ht_
          have shc6 := hc6.x
          refine hK.out _ _ (fun _ => hc6.x) ?_
          clear hK K hm_ ht_
          try simp only [Act.put, List.setIfInBounds_toArray, List.set_cons_zero, List.set_cons_succ]
          refine He.wpE_take (i := 6) (v := ?_) rfl (by kernel_rfl) (by kernel_rfl) (by kernel_rfl) (by kernel_rfl) (by kernel_rfl) (fun _ _ _ h => h) (by rfl) ?_ (by assumption) ?_
          rotate_left
          · (intro w' hSw; (try dsimp only at hSw); go_simp; first | done | with_reducible rfl)
          try simp only [List.getElem_toArray, List.getElem_cons_succ, List.getElem_cons_zero, Act.put, List.setIfInBounds_toArray, List.set_cons_zero, List.set_cons_succ]
          refine He.wpE_one (i := 7) (by kernel_rfl) rfl (by rfl) (fun K hK => ?_)
          go_simp
          have hc7 := hc6.alloc
          have shc7 := hc7.x
          refine hK.out _ _ (fun _ => hc7.x) ?_
          clear hK K
          try simp only [Act.put, List.setIfInBounds_toArray, List.set_cons_zero, List.set_cons_succ]
          skip
          refine He.wpE_one (i := 8) (by kernel_rfl) rfl (by rfl) (fun K hK => ?_)
          obtain ⟨z0, z1, z2, z3⟩ := Blk4c (hc7.al _ rfl).2
          have zf0 := (hc7.al _ rfl).2.free 0
          have zf1 := (hc7.al _ rfl).2.free 1
          have zf2 := (hc7.al _ rfl).2.free 2
          have zf3 := (hc7.al _ rfl).2.free 3
          go_simp
          refine hK.out _ _ (fun h => absurd rfl h) ?_
          clear hK K
          refine He.wpE_done (by kernel_rfl) ?_
          try simp only [Act.put, List.setIfInBounds_toArray, List.set_cons_zero, List.set_cons_succ]
          have hcut := hc6.put_new (kT s).c (kT s).st (kT s).lo
          clear z0 z1 z2 z3 zf0 zf1 zf2 zf3
          go_wp2_with fail
          go_meet
          exact ⟨_, rfl, hcut⟩
        · go_simp
          have hc10 := hc4.alloc
          have shc10 := hc10.x
          refine hK.out _ _ (fun _ => hc10.x) ?_
          clear hK K
          try simp only [Act.put, List.setIfInBounds_toArray, List.set_cons_zero, List.set_cons_succ]
          refine He.wpE_one (i := 5) (by kernel_rfl) rfl (by rfl) (fun K hK => ?_)
          go_simp
          (with_reducible refine (N3.out _ _ ?_).mono ?_)
          · exact hc10.t
          rintro e wx12 ⟨rfl, hm_, ht_⟩
          have hc13 := hc10.call (by omega) (by omega) hm_ ht_
          have shc13 := hc13.x
          refine hK.out _ _ (fun _ => hc13.x) ?_
          clear hK K hm_ ht_
          try simp only [Act.put, List.setIfInBounds_toArray, List.set_cons_zero, List.set_cons_succ]
          refine He.wpE_take (i := 6) (v := ?_) rfl (by kernel_rfl) (by kernel_rfl) (by kernel_rfl) (by kernel_rfl) (by kernel_rfl) (fun _ _ _ h => h) (by rfl) ?_ (by assumption) ?_
          rotate_left
          · (intro w' hSw; (try dsimp only at hSw); go_simp; first | done | with_reducible rfl)
          try simp only [List.getElem_toArray, List.getElem_cons_succ, List.getElem_cons_zero, Act.put, List.setIfInBounds_toArray, List.set_cons_zero, List.set_cons_succ]
          refine He.wpE_one (i := 8) (by kernel_rfl) rfl (by rfl) (fun K hK => ?_)
          obtain ⟨z0, z1, z2, z3⟩ := Blk4c (hc13.al _ rfl).2
          have zf0 := (hc13.al _ rfl).2.free 0
          have zf1 := (hc13.al _ rfl).2.free 1
          have zf2 := (hc13.al _ rfl).2.free 2
          have zf3 := (hc13.al _ rfl).2.free 3
          go_simp
          refine hK.out _ _ (fun h => absurd rfl h) ?_
          clear hK K
          refine He.wpE_done (by kernel_rfl) ?_
          try simp only [Act.put, List.setIfInBounds_toArray, List.set_cons_zero, List.set_cons_succ]
          have hcut := hc13.put (by omega) (by omega) (kT s).c (kT s).st (kT s).lo
          clear z0 z1 z2 z3 zf0 zf1 zf2 zf3
          go_wp2_with fail
          go_meet
          exact ⟨_, rfl, hcut⟩
      · go_simp
        have hc15 := hc2.alloc
        have shc15 := hc15.x
        refine hK.out _ _ (fun _ => hc15.x) ?_
        clear hK K
        try simp only [Act.put, List.setIfInBounds_toArray, List.set_cons_zero, List.set_cons_succ]
        refine He.wpE_one (i := 3) (by kernel_rfl) rfl (by rfl) (fun K hK => ?_)
        go_simp
        (with_reducible refine (N2.out _ _ ?_).mono ?_)
        · exact hc15.t
        rintro e wx17 ⟨rfl, hm_, ht_⟩
        have hc18 := hc15.call (by omega) (by omega) hm_ ht_
        have shc18 := hc18.x
        refine hK.out _ _ (fun _ => hc18.x) ?_
        clear hK K hm_ ht_
        try simp only [Act.put, List.setIfInBounds_toArray, List.set_cons_zero, List.set_cons_succ]
        refine He.wpE_one (i := 5) (by kernel_rfl) rfl (by rfl) (fun K hK => ?_)
        go_simp
        (with_reducible refine (N3.out _ _ ?_).mono ?_)
        · exact hc18.t
        rintro e wx19 ⟨rfl, hm_, ht_⟩
        have hc20 := hc18.call (by omega) (by omega) hm_ ht_
        have shc20 := hc20.x
        refine hK.out _ _ (fun _ => hc20.x) ?_
        clear hK K hm_ ht_
        try simp only [Act.put, List.setIfInBounds_toArray, List.set_cons_zero, List.set_cons_succ]
        refine He.wpE_take (i := 6) (v := ?_) rfl (by kernel_rfl) (by kernel_rfl) (by kernel_rfl) (by kernel_rfl) (by kernel_rfl) (fun _ _ _ h => h) (by rfl) ?_ (by assumption) ?_
        rotate_left
        · (intro w' hSw; (try dsimp only at hSw); go_simp; first | done | with_reducible rfl)
        try simp only [List.getElem_toArray, List.getElem_cons_succ, List.getElem_cons_zero, Act.put, List.setIfInBounds_toArray, List.set_cons_zero, List.set_cons_succ]
        refine He.wpE_one (i := 8) (by kernel_rfl) rfl (by rfl) (fun K hK => ?_)
        obtain ⟨z0, z1, z2, z3⟩ := Blk4c (hc20.al _ rfl).2
        have zf0 := (hc20.al _ rfl).2.free 0
        have zf1 := (hc20.al _ rfl).2.free 1
        have zf2 := (hc20.al _ rfl).2.free 2
        have zf3 := (hc20.al _ rfl).2.free 3
        go_simp
        refine hK.out _ _ (fun h => absurd rfl h) ?_
        clear hK K
        refine He.wpE_done (by kernel_rfl) ?_
        try simp only [Act.put, List.setIfInBounds_toArray, List.set_cons_zero, List.set_cons_succ]
        have hcut := hc20.put (by omega) (by omega) (kT s).c (kT s).st (kT s).lo
        clear z0 z1 z2 z3 zf0 zf1 zf2 zf3
        go_wp2_with fail
        go_meet
        exact ⟨_, rfl, hcut⟩
    · go_simp
      have hc22 : RdC W (w.heap.size + 1) w1.heap.size (s, 0) 0 (some W.heap.size) _ := HC0.alloc
      have shc22 := hc22.x
      refine hK.out _ _ (fun _ => hc22.x) ?_
      clear hK K
      try simp only [Act.put, List.setIfInBounds_toArray, List.set_cons_zero, List.set_cons_succ]
      refine He.wpE_one (i := 1) (by kernel_rfl) rfl (by rfl) (fun K hK => ?_)
      go_simp
      (with_reducible refine (N1.out _ _ ?_).mono ?_)
      · exact hc22.t
      rintro e wx24 ⟨rfl, hm_, ht_⟩
      have hc25 := hc22.call (by omega) (by omega) hm_ ht_
      have shc25 := hc25.x
      refine hK.out _ _ (fun _ => hc25.x) ?_
      clear hK K hm_ ht_
      try simp only [Act.put, List.setIfInBounds_toArray, List.set_cons_zero, List.set_cons_succ]
      refine He.wpE_one (i := 3) (by kernel_rfl) rfl (by rfl) (fun K hK => ?_)
      go_simp
      (with_reducible refine (N2.out _ _ ?_).mono ?_)
      · exact hc25.t
      rintro e wx26 ⟨rfl, hm_, ht_⟩
      have hc27 := hc25.call (by omega) (by omega) hm_ ht_
      have shc27 := hc27.x
      refine hK.out _ _ (fun _ => hc27.x) ?_
      clear hK K hm_ ht_
      try simp only [Act.put, List.setIfInBounds_toArray, List.set_cons_zero, List.set_cons_succ]
      refine He.wpE_one (i := 5) (by kernel_rfl) rfl (by rfl) (fun K hK => ?_)
      go_simp
      (with_reducible refine (N3.out _ _ ?_).mono ?_)
      · exact hc27.t
      rintro e wx28 ⟨rfl, hm_, ht_⟩
      have hc29 := hc27.call (by omega) (by omega) hm_ ht_
      have shc29 := hc29.x
      refine hK.out _ _ (fun _ => hc29.x) ?_
      clear hK K hm_ ht_
      try simp only [Act.put, List.setIfInBounds_toArray, List.set_cons_zero, List.set_cons_succ]
      refine He.wpE_take (i := 6) (v := ?_) rfl (by kernel_rfl) (by kernel_rfl) (by kernel_rfl) (by kernel_rfl) (by kernel_rfl) (fun _ _ _ h => h) (by rfl) ?_ (by assumption) ?_
      rotate_left
      · (intro w' hSw; (try dsimp only at hSw); go_simp; first | done | with_reducible rfl)
      try simp only [List.getElem_toArray, List.getElem_cons_succ, List.getElem_cons_zero, Act.put, List.setIfInBounds_toArray, List.set_cons_zero, List.set_cons_succ]
      refine He.wpE_one (i := 8) (by kernel_rfl) rfl (by rfl) (fun K hK => ?_)
      obtain ⟨z0, z1, z2, z3⟩ := Blk4c (hc29.al _ rfl).2
      have zf0 := (hc29.al _ rfl).2.free 0
      have zf1 := (hc29.al _ rfl).2.free 1
      have zf2 := (hc29.al _ rfl).2.free 2
      have zf3 := (hc29.al _ rfl).2.free 3
      go_simp
      refine hK.out _ _ (fun h => absurd rfl h) ?_
      clear hK K
      refine He.wpE_done (by kernel_rfl) ?_
      try simp only [Act.put, List.setIfInBounds_toArray, List.set_cons_zero, List.set_cons_succ]
      have hcut := hc29.put (by omega) (by omega) (kT s).c (kT s).st (kT s).lo
      clear z0 z1 z2 z3 zf0 zf1 zf2 zf3
      go_wp2_with fail
      go_meet
      exact ⟨_, rfl, hcut⟩
  case rest =>
    obtain ⟨q, rfl, hcp⟩ := hcut
    have cx := hcp.x
    have HM1 := Lib.hid (HM0.out.trans hcp.md (R := []) (by simp))
    have HB1 := Lib.hid (HB0.out.mod hcp.md (by simp))
    have HQ := Lib.hid hcp.b
    have HTq := Lib.hid hcp.t
    have hqge := hcp.ge
    have hwc := hcp.md.size
    have HXc := Lib.hid (HX0.out.mod hcp.md (by simp; omega))
    have hqlt := hcp.b.lt
    clear hcp x0
    go_wp2_with fail
    (with_reducible refine (N4.out _ _ ?_).mono ?_)
    · exact HTq.out
    rintro e w4 ⟨rfl, hm4, ht4⟩
    have HM4 := Lib.hid ((HM1.out.trans hm4 (R := []) (by simp)).alloc (.cells #[.int .i64 (kM s)] 3))
    have HB4 := Lib.hid ((HB1.out.mod hm4 (by simp)).alloc (.cells #[.int .i64 (kM s)] 3))
    have HQ4 := Lib.hid ((HQ.out.mod hm4 (by simp; omega)).alloc (.cells #[.int .i64 (kM s)] 3))
    have HX4 := Lib.hid ((HXc.out.mod hm4 (by simp; omega)).alloc (.cells #[.int .i64 (kM s)] 3))
    have HT4 := Lib.hid (Blk.alloc ht4 (.cells #[.int .i64 (kM s)] 3))
    have HN4 := Lib.hid (Blk.new w4 #[.int .i64 (kM s)] 3)
    have hz4 := hm4.size
    clear hm4 ht4 HTq HM1 HB1 HQ HXc cx
    have EC := Lib.hid (each_calls (w.heap.size + 1) w1.heap.size q w4.heap.size (nxk 4 (s, 0)) (kM s) (kT s).c (kT s).st (kT s).lo (by omega) _ (by have := nxk_size 4 (s, 0); dsimp only at this; omega) HT4.out (HX4.out.cell 0) (HN4.out.cell 0) HQ4.out (by omega) (by omega) (by omega) (by omega))
    go_wp2_with fail
    (with_reducible refine EC.out.mono ?_)
    rintro e w5 ⟨v, rfl, hm5, ht5, hb5, hr5⟩
    have HM5 := Lib.hid (HM4.out.trans hm5 (R := []) (by simp; omega))
    have HB5 := Lib.hid (HB4.out.mod hm5 (by simp; omega))
    have n5 := (HN4.out.mod hm5 (by simp; omega)).cell 0
    have x5 := (HX4.out.mod hm5 (by simp; omega)).cell 0
    simp at n5 x5
    rw [← HKT.out.2] at ht5
    rw [← HKT.out.1] at hr5
    have HT5 := Lib.hid ht5
    have HRS := Lib.hid hr5
    have hr5 := hr5 _ [] (Mod.refl _ _) (by simp)
    have HR5 := Lib.hid hr5
    have HBQ := Lib.hid hb5
    obtain ⟨va, vc, rfl, -⟩ := hr5.shape
    obtain ⟨b0, b1, b2, b3⟩ := Blk4c hb5
    obtain ⟨r0, r1, r2, r3⟩ := Blk4c HB5.out
    have f0 := HB5.out.free 0
    have f1 := HB5.out.free 1
    have f2 := HB5.out.free 2
    have f3 := HB5.out.free 3
    clear hm5 ht5 hb5 hr5 EC HM4 HB4 HQ4 HX4 HT4 HN4 HKT
    have ED := Lib.hid (fun w' hb => End_calls (w.heap.size + 1) (kQ s).1 (kQ s).2 w' hb)
    obtain ⟨k1, k2, k3⟩ := kT_ok s
    have MC := Lib.hid (fun w h => may_calls (kT s) (.slice va (kT s).rs.length vc) k1 k2 (by omega) w h)
    have HOK : Hid (kOK s = (decide (0 ≤ kM s) && (decide (endE (kQ s).1 (kQ s).2 = 0) && trkB (kT s)))) := Lib.hid rfl
    have HOT : Hid (outD s = if kOK s = true then kT s else zeroT) := Lib.hid rfl
    have HER : Hid (errD s = if kOK s = true then 0 else 3) := Lib.hid rfl
    generalize endE (kQ s).1 (kQ s).2 = E at *
    clear k1 k2
    by_cases c1 : kM s < 0
    · have hk : kOK s = false := by rw [HOK.out, decide_eq_false (by omega)]; rfl
      have HK := Lib.hid hk
      clear hk
      go_wp2_with fail
      have hk := HK.out
      have HO : outD s = zeroT := by rw [HOT.out, hk, if_neg (by simp)]
      have HE : errD s = 3 := by rw [HER.out, hk, if_neg (by simp)]
      have hms : Mod w5 ((((w5.setCell ⟨w.heap.size, 0, none⟩ (.int .i64 0)).setCell ⟨w.heap.size, 1, none⟩ (.int .i64 0)).setCell ⟨w.heap.size, 2, none⟩ (.int .i64 0)).setCell ⟨w.heap.size, 3, none⟩ (.slice none 0 0)) [w.heap.size] :=
        ((((Mod.refl w5 [w.heap.size]).setCell (by simp) _).setCell (by simp) _).setCell (by simp) _).setCell (by simp) _
      have HF := HM5.out.trans hms (R := []) (by simp)
      refine bodyPost_ret (v := .tuple #[trkV zeroT (.slice none 0 0), .int .i64 3]) (by simp [results, Try.results17, go_sem, r0, r1, r2, r3, zeroT]) rfl ?_
      unfold ReadOut
      rw [HO, HE]
      exact ⟨_, rfl, HF, .inl ⟨rfl, none, 0, rfl⟩⟩
    have c1' : 0 ≤ kM s := by omega
    have hd1 : decide (0 ≤ kM s) = true := decide_eq_true c1'
    rw [hd1, Bool.true_and] at HOK
    clear c1 hd1
    by_cases c2 : E = 0
    case neg =>
      have hk : kOK s = false := by rw [HOK.out, decide_eq_false c2]; rfl
      have c2' : (E != 0) = true := by rw [bne_iff_ne]; exact c2
      have HK := Lib.hid hk
      clear hk c2
      go_wp2_with fail
      (with_reducible refine (ED.out _ ?_).mono ?_)
      · exact HT5.out
      rintro e w6 ⟨rfl, rfl⟩
      go_wp2_with fail
      have hk := HK.out
      have HO : outD s = zeroT := by rw [HOT.out, hk, if_neg (by simp)]
      have HE : errD s = 3 := by rw [HER.out, hk, if_neg (by simp)]
      have hms : Mod w5 ((((w5.setCell ⟨w.heap.size, 0, none⟩ (.int .i64 0)).setCell ⟨w.heap.size, 1, none⟩ (.int .i64 0)).setCell ⟨w.heap.size, 2, none⟩ (.int .i64 0)).setCell ⟨w.heap.size, 3, none⟩ (.slice none 0 0)) [w.heap.size] :=
        ((((Mod.refl w5 [w.heap.size]).setCell (by simp) _).setCell (by simp) _).setCell (by simp) _).setCell (by simp) _
      have HF := HM5.out.trans hms (R := []) (by simp)
      refine bodyPost_ret (v := .tuple #[trkV zeroT (.slice none 0 0), .int .i64 3]) (by simp [results, Try.results17, go_sem, r0, r1, r2, r3, zeroT]) rfl ?_
      unfold ReadOut
      rw [HO, HE]
      exact ⟨_, rfl, HF, .inl ⟨rfl, none, 0, rfl⟩⟩
    subst c2
    rw [decide_eq_true rfl, Bool.true_and] at HOK
    cases hB : trkB (kT s)
    · rw [hB] at MC
      have hk : kOK s = false := by rw [HOK.out, hB]
      have HK := Lib.hid hk
      clear hk hB
      go_wp2_with fail
      (with_reducible refine (ED.out _ ?_).mono ?_)
      · exact HT5.out
      rintro e w6 ⟨rfl, rfl⟩
      go_wp2_with fail
      (with_reducible refine (MC.out _ ?_).mono ?_)
      · exact HR5.out
      rintro e w7 ⟨rfl, hm7⟩
      have HM7 := Lib.hid (HM5.out.trans0 hm7)
      obtain ⟨b0, b1, b2, b3⟩ := Blk4c (HBQ.out.mod hm7 (by simp))
      have hb7 := HB5.out.mod hm7 (by simp)
      obtain ⟨r0, r1, r2, r3⟩ := Blk4c hb7
      have f0 := hb7.free 0
      have f1 := hb7.free 1
      have f2 := hb7.free 2
      have f3 := hb7.free 3
      have HM75 := Lib.hid (hm7.weak0 (R := [w.heap.size]))
      clear hm7 hb7
      go_wp2_with fail
      have hk := HK.out
      have HO : outD s = zeroT := by rw [HOT.out, hk, if_neg (by simp)]
      have HE : errD s = 3 := by rw [HER.out, hk, if_neg (by simp)]
      have hms : Mod w7 ((((w7.setCell ⟨w.heap.size, 0, none⟩ (.int .i64 0)).setCell ⟨w.heap.size, 1, none⟩ (.int .i64 0)).setCell ⟨w.heap.size, 2, none⟩ (.int .i64 0)).setCell ⟨w.heap.size, 3, none⟩ (.slice none 0 0)) [w.heap.size] :=
        ((((Mod.refl w7 [w.heap.size]).setCell (by simp) _).setCell (by simp) _).setCell (by simp) _).setCell (by simp) _
      have HF := HM7.out.trans hms (R := []) (by simp)
      refine bodyPost_ret (v := .tuple #[trkV zeroT (.slice none 0 0), .int .i64 3]) (by simp [results, Try.results17, go_sem, r0, r1, r2, r3, zeroT]) rfl ?_
      unfold ReadOut
      rw [HO, HE]
      exact ⟨_, rfl, HF, .inl ⟨rfl, none, 0, rfl⟩⟩
    · rw [hB] at MC
      have hk : kOK s = true := by rw [HOK.out, hB]
      have HK := Lib.hid hk
      clear hk hB
      go_wp2_with fail
      (with_reducible refine (ED.out _ ?_).mono ?_)
      · exact HT5.out
      rintro e w6 ⟨rfl, rfl⟩
      go_wp2_with fail
      (with_reducible refine (MC.out _ ?_).mono ?_)
      · exact HR5.out
      rintro e w7 ⟨rfl, hm7⟩
      have HM7 := Lib.hid (HM5.out.trans0 hm7)
      obtain ⟨b0, b1, b2, b3⟩ := Blk4c (HBQ.out.mod hm7 (by simp))
      have hb7 := HB5.out.mod hm7 (by simp)
      obtain ⟨r0, r1, r2, r3⟩ := Blk4c hb7
      have f0 := hb7.free 0
      have f1 := hb7.free 1
      have f2 := hb7.free 2
      have f3 := hb7.free 3
      have HM75 := Lib.hid (hm7.weak0 (R := [w.heap.size]))
      clear hm7 hb7
      go_wp2_with fail
      have hk := HK.out
      have HO : outD s = kT s := by rw [HOT.out, hk, if_pos rfl]
      have HE : errD s = 0 := by rw [HER.out, hk, if_pos rfl]
      have hms : Mod w7 ((((w7.setCell ⟨w.heap.size, 0, none⟩ (.int .i64 (kT s).c)).setCell ⟨w.heap.size, 1, none⟩ (.int .i64 (kT s).st)).setCell ⟨w.heap.size, 2, none⟩ (.int .i64 (kT s).lo)).setCell ⟨w.heap.size, 3, none⟩ (.slice va (kT s).rs.length vc)) [w.heap.size] :=
        ((((Mod.refl w7 [w.heap.size]).setCell (by simp) _).setCell (by simp) _).setCell (by simp) _).setCell (by simp) _
      have HF := HM7.out.trans hms (R := []) (by simp)
      refine bodyPost_ret (v := .tuple #[trkV (kT s) (.slice va (kT s).rs.length vc), .int .i64 0]) (by simp [results, Try.results17, go_sem, r0, r1, r2, r3, zeroT]) rfl ?_
      unfold ReadOut
      rw [HO, HE]
      refine ⟨_, rfl, HF, ?_⟩
      exact HRS.out _ [w.heap.size] (((Mod.refl _ _).trans HM75.out (by simp)).trans hms (by simp)) (by simp; omega)
end Go.Proofs.Ytcbafomhifdgpaa.Ke
