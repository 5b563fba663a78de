/- The law SessPlays. -/
import Derived.Test.YtcbafomhifdgpaaSsPb
section
/- The law SessPlays. (Printed by mkSsN.py.) -/
namespace Go.Proofs.Ytcbafomhifdgpaa.Ss
open Go.RowKit Mem Si Bits
set_option linter.unusedSimpArgs false
set_option linter.unusedVariables false
set_option maxRecDepth 100000
attribute [local go_sem ↓] Go.wp_at_zero Go.wp_at_succ
/-- The program's table and the reference's, in memory. -/
structure Pl (w w' : World) (rb t : Nat) (lt lr : List Sn) (rv : Value) : Prop where
  md : Mod w w' []
  tl : w.heap.size ≤ t
  rl : w.heap.size ≤ rb
  tb : ∃ v, TabAt w' t v lt
  bl : Blk w' rb #[rv] 64
  rf : RefAt w' 0 rv lr
theorem own_blkT {w : World} {base : Nat} {e : TypeId} {size : Nat} {v : Value} {n : Nat} {xs : List Value} (h : w.ownsRow base e size v n xs) : ∀ k, v.ownBlock = some k → ∃ cur, Blk w k cur e := by
  intro k hk
  obtain ⟨_, ⟨e, _⟩ | ⟨g, cap, cur, e, _, hc, _⟩⟩ := h
  · rw [e] at hk; cases hk
  · have : k = g := by rw [e] at hk; simpa [Value.ownBlock] using hk.symm
    subst this
    exact ⟨cur, hc⟩
theorem tabP_not {w w' : World} {t : Nat} {v : Value} {l l' : List Sn} {g : Nat} {cs : Array Value} {ty : TypeId} (h : TabAt w t v l) (hb : Blk w g cs ty) (h1 : ty ≠ 101) (h2 : ty ≠ 107) : g ∉ t :: v.ownBlock.toList := by
  intro hm
  rcases List.mem_cons.1 hm with rfl | hm
  · exact h1 (blk_ne hb h.1)
  · obtain ⟨cur, hc⟩ := own_blkT h.2 g (by simpa using hm)
    exact h2 (blk_ne hb hc)
theorem Pl.mod {w a b : World} {rb t : Nat} {lt lr : List Sn} {rv : Value} (h : Pl w a rb t lt lr rv) (m : Mod a b []) : Pl w b rb t lt lr rv :=
  ⟨h.md.trans0 m, h.tl, h.rl, h.tb.elim fun v hv => ⟨v, hv.mod m (by simp) (by simp)⟩, h.bl.mod m (by simp), h.rf.mod m (by simp)⟩
theorem Pl.tab {w a b : World} {rb t : Nat} {lt lr l' : List Sn} {rv v : Value} (h : Pl w a rb t lt lr rv) (hv : TabAt a t v lt) (hp : TabP t v l' a b) : Pl w b rb t l' lr rv := by
  obtain ⟨v', h4, h5⟩ := tab_step h.md h.tl hv hp
  obtain ⟨_, _, hm, _⟩ := hp
  refine ⟨h5, h.tl, h.rl, ⟨v', h4⟩, h.bl.mod hm (tabP_not (w' := b) (l' := l') hv h.bl (by decide) (by decide)), h.rf.mod hm (fun k hk => ?_)⟩
  obtain ⟨cur, hc⟩ := own_blkT h.rf k hk
  exact tabP_not (w' := b) (l' := l') hv hc (by decide) (by decide)
theorem Pl.step {w a b : World} {rb t : Nat} {lt lr l' : List Sn} {rv : Value} {ga : Option Addr} {k gc : Nat} (h : Pl w a rb t lt lr rv) (m : Mod a b []) (hr : RefAt b 0 (.slice ga k gc) l') : Pl w (b.setCell ⟨rb, 0, none⟩ (.slice ga k gc)) rb t lt l' (.slice ga k gc) := by
  have hb := h.mod m
  have hms : Mod b (b.setCell ⟨rb, 0, none⟩ (.slice ga k gc)) [rb] := (Mod.refl _ _).setCell (by simp) _
  refine ⟨hb.md.setCell (.inr h.rl) _, h.tl, h.rl, ?_, ?_, set_ref hr hb.bl⟩
  · obtain ⟨v, hv⟩ := hb.tb
    refine ⟨v, hv.mod hms ?_ ?_⟩
    · rw [List.mem_singleton]; rintro rfl
      exact absurd (blk_ne hv.1 hb.bl) (by decide)
    · intro j hj hm
      rw [List.mem_singleton] at hm
      subst hm
      obtain ⟨cur, hc⟩ := own_blkT hv.2 j hj
      exact absurd (blk_ne hc hb.bl) (by decide)
  · have := hb.bl.set 0 (.slice ga k gc)
    simpa using this
theorem Pl.new {w a b : World} {rb t t' : Nat} {lt lr l' : List Sn} {rv v : Value} (h : Pl w a rb t lt lr rv) (m : Mod a b []) (ht : a.heap.size ≤ t') (hv : TabAt b t' v l') : Pl w b rb t' l' lr rv :=
  ⟨h.md.trans0 m, Nat.le_trans h.md.size ht, h.rl, ⟨v, hv⟩, h.bl.mod m (by simp), h.rf.mod m (by simp)⟩
theorem txt_size {l : List Sn} (h : Good l) : (txt l).size ≤ 140737488351232 := by
  have := (txtK_size l l.length (Nat.le_refl _)).2
  have := h.len
  unfold txt; omega

set_option maxHeartbeats 8000000 in
theorem sessPlays_calls (w : World) (a : Value) (ha : Open.Rd w (.sl acSh 24) [a]) :
    Calls Try.prog 11 #[a] w fun e w' => e = .returned (.bool true) ∧ Below w.heap.size w w' := by
  obtain ⟨xs, ad, acap, rfl, hal, hax, hac⟩ := ac_rd ha
  have AW := Lib.hid awake_calls
  have NW := Lib.hid new_calls
  have HAC := Lib.hid hac
  have hal' : (xs.length : Int) ≤ 140737488351232 := by omega
  clear ha hax hac
  go_enter Try.func11, Try.ntmps11
  go_wp2_with fail
  (with_reducible refine (NW.out _).mono ?_)
  rintro e w1 ⟨rfl, hw1⟩
  have hsz1 : w1.heap.size = w.heap.size + 1 := by rw [hw1, World.size_alloc]
  have HM1 : Hid (Mod w w1 []) := Lib.hid (by rw [hw1]; exact (Mod.refl _ _).alloc _)
  have HT1 : Hid (TabAt w1 w.heap.size (.slice none 0 0) []) := Lib.hid (by rw [hw1]; exact new_tab w)
  have HP1 : Hid (Pl w (w1.alloc (.cells #[.slice none 0 0] 64)) (w.heap.size + 1) w.heap.size [] [] (.slice none 0 0)) := Lib.hid (by
    have hb := Blk.new w1 #[.slice none 0 0] 64
    rw [hsz1] at hb
    exact ⟨HM1.out.alloc _, Nat.le_refl _, by omega, ⟨_, HT1.out.mod ((Mod.refl w1 []).alloc _) (by simp) (by simp)⟩, hb, World.ownsRow_nil _ _ _ _⟩)
  clear hw1 HM1 HT1
  go_wp2_with fail
  generalize w1.alloc _ = W1 at HP1 ⊢
  clear hsz1
  (with_reducible refine (AW.out _).mono ?_)
  rintro e w2 ⟨rfl, hm2⟩
  have HP2 := Lib.hid (HP1.out.mod hm2)
  clear hm2 HP1
  go_wp2_with fail
  go_loopw [3, 5] (fun vt vi wr => ∃ (i t : Nat) (l : List Sn) (rv : Value), i ≤ xs.length ∧ i ≤ 200 ∧ vt = .pointer (some ⟨t, 0, none⟩) ∧ vi = .int .i64 (i : Int) ∧ Good l ∧ Pl w wr (w.heap.size + 1) t l l rv) (fun _ vi _ => 201 - (intOf vi).toNat)
  case atStart => exact ⟨0, _, [], _, Nat.zero_le _, by omega, rfl, rfl, Good.nil, HP2.out⟩
  case round =>
    obtain ⟨i, t, l, rv, hi, hi2, rfl, rfl, hg, hp⟩ := hrel
    have HP := Lib.hid hp
    have HG := Lib.hid hg
    obtain ⟨ra, rc, rfl⟩ := Rw.own_slice hp.rf
    clear hp hg HP2
    by_cases hgo : i < xs.length ∧ i < 200
    · obtain ⟨hlt, h60⟩ := hgo
      have hlt' : (i : Int) < xs.length := by omega
      have h60' : (i : Int) < 200 := by omega
      obtain ⟨bb, off, rfl, hc⟩ := HAC.out.resolve_left (fun h => by rw [h] at hlt; simp at hlt)
      have HC := Lib.hid (hc i hlt)
      clear hc
      generalize xs[i]'hlt = x at *
      obtain ⟨xk, x1, x2⟩ := x
      obtain ⟨y0, y1, y2⟩ := HC.out.mod HP.out.md
      simp only at y0 y1 y2
      have HX : Hid (Blk (wr.alloc (.cells #[.int .i64 xk, .int .i64 x1, .int .i64 x2] 52)) wr.heap.size #[.int .i64 xk, .int .i64 x1, .int .i64 x2] 52) := Lib.hid (Blk.new _ _ _)
      have HPW := Lib.hid (HP.out.mod ((Mod.refl wr []).alloc (.cells #[.int .i64 xk, .int .i64 x1, .int .i64 x2] 52)))
      have hrb : w.heap.size + 1 < wr.heap.size := HP.out.bl.lt
      have hn1 : w.heap.size + 1 ≠ wr.heap.size := by omega
      have hn2 : wr.heap.size ≠ w.heap.size + 1 := by omega
      have hll := HG.out.len
      have b00 := HP.out.bl.cell 0
      clear HP HC
      by_cases k0 : xk = 0
      · subst k0
        have RO : Hid (∀ v w, RefAt w 0 v l → Calls Try.prog 32 #[.agg #[v], .int .i64 x1] w fun e w' => ∃ v', e = .returned (.tuple #[.agg #[v'], .int .i64 (openL l x1).2]) ∧ Mod w w' [] ∧ RefAt w' 0 v' (openL l x1).1) :=
          Lib.hid (fun v w h => by have h := ropen_calls 0 v l x1 w h (by omega); rw [rOpen_eq HG.out] at h; exact h)
        have OC := Lib.hid (fun v w h => open_calls t v l x1 w h (by omega) HG.out.up)
        have HG1 := Lib.hid (good_open HG.out x1)
        generalize (openL l x1).1 = l1 at *
        generalize (openL l x1).2 = E at *
        have hnE : (E != E) = false := by simp
        clear HG
        go_wp2_with fail
        generalize wr.alloc _ = W at HPW HX ⊢
        (with_reducible refine (RO.out _ _ HPW.out.rf).mono ?_)
        rintro e w4 ⟨rv2, rfl, hm4, hr4⟩
        obtain ⟨ra2, rc2, rfl⟩ := Rw.own_slice hr4
        have HPS := Lib.hid (HPW.out.step hm4 hr4)
        have HX4 := Lib.hid (HX.out.mod hm4 (by simp))
        have HB4 := Lib.hid (HPW.out.bl.mod hm4 (by simp))
        have b0 := HB4.out.cell 0
        have b1 := HB4.out.free 0
        have e0 := HX4.out.cell 0
        have e1 := HX4.out.cell 1
        have e2 := HX4.out.cell 2
        have hl4 := HB4.out.lt
        clear hm4 hr4 HPW HX b00
        go_wp2_with fail
        obtain ⟨tv, htv⟩ := HPS.out.tb
        (with_reducible refine (OC.out _ _ htv).mono ?_)
        rintro e w5 ⟨rfl, hm5⟩
        have HQ := Lib.hid (HPS.out.tab htv hm5)
        clear hm5 htv HPS b0 b1 e0 e1 e2 hl4 HB4 HX4
        go_wp2_with fail
        have hl1 := HG1.out.len
        have AC := Lib.hid (fun v w h => all_calls t v l1 w h (by omega))
        have RF := Lib.hid (fun base v w h => refs_calls base v l1 w h (by omega))
        have SC := Lib.hid (fun b1 b2 v1 v2 w h1 h2 => same_calls b1 b2 v1 v2 l1 l1 w h1 h2 (by omega) (by omega))
        have TX := Lib.hid (fun v w h => text_calls t v l1 w h (by omega) HG1.out.sb)
        have RX := Lib.hid (fun b v w h => rtext_calls b v l1 w h (by omega) HG1.out.sb)
        rw [decide_eq_true (rfl : l1 = l1)] at SC
        have hq : ((txt l1).toList == (txt l1).toList) = true := by simp
        generalize txt l1 = T at TX RX hq
        have c0 := HQ.out.bl.cell 0
        refine He.wp_region_e 25 (fun w' => w'.cell? ⟨w.heap.size + 1, 0, none⟩ = some (.slice ra2 l1.length rc2)) (by kernel_rfl) (keepC (Mod.refl _ _).drew c0) (fun S0 => ?_)
        have HQ := Lib.hid (HQ.out.mod (Mod.refl _ _).drew)
        clear c0
        refine He.wpE_take (i := 0) (v := ?_) rfl (by kernel_rfl) (by kernel_rfl) (by kernel_rfl) (by kernel_rfl) (by kernel_rfl) (fun _ _ _ h => h) (by rfl) ?_ (by assumption) ?_
        rotate_left
        · (intro w' hSw; (try dsimp only at hSw); go_simp; first | done | with_reducible rfl)
        try simp only [List.getElem_toArray, List.getElem_cons_succ, List.getElem_cons_zero, Act.put, List.setIfInBounds_toArray, List.set_cons_zero, List.set_cons_succ]
        refine He.wpE_take (i := 1) (v := ?_) rfl (by kernel_rfl) (by kernel_rfl) (by kernel_rfl) (by kernel_rfl) (by kernel_rfl) (fun _ _ _ h => h) (by rfl) ?_ (by assumption) ?_
        rotate_left
        · (intro w' hSw; (try dsimp only at hSw); go_simp; first | done | with_reducible rfl)
        try simp only [List.getElem_toArray, List.getElem_cons_succ, List.getElem_cons_zero, Act.put, List.setIfInBounds_toArray, List.set_cons_zero, List.set_cons_succ]
        refine He.wpE_take (i := 2) (v := ?_) rfl (by kernel_rfl) (by kernel_rfl) (by kernel_rfl) (by kernel_rfl) (by kernel_rfl) (fun _ _ _ h => h) (by rfl) ?_ (by assumption) ?_
        rotate_left
        · (intro w' hSw; (try dsimp only at hSw); go_simp; first | done | with_reducible rfl)
        try simp only [List.getElem_toArray, List.getElem_cons_succ, List.getElem_cons_zero, Act.put, List.setIfInBounds_toArray, List.set_cons_zero, List.set_cons_succ]
        refine He.wpE_take (i := 3) (v := ?_) rfl (by kernel_rfl) (by kernel_rfl) (by kernel_rfl) (by kernel_rfl) (by kernel_rfl) (fun _ _ _ h => h) (by rfl) ?_ (by assumption) ?_
        rotate_left
        · (intro w' hSw; (try dsimp only at hSw); go_simp; first | done | with_reducible rfl)
        try simp only [List.getElem_toArray, List.getElem_cons_succ, List.getElem_cons_zero, Act.put, List.setIfInBounds_toArray, List.set_cons_zero, List.set_cons_succ]
        refine He.wpE_take (i := 4) (v := ?_) rfl (by kernel_rfl) (by kernel_rfl) (by kernel_rfl) (by kernel_rfl) (by kernel_rfl) (fun _ _ _ h => h) (by rfl) ?_ (by assumption) ?_
        rotate_left
        · (intro w' hSw; (try dsimp only at hSw); go_simp; first | done | with_reducible rfl)
        try simp only [List.getElem_toArray, List.getElem_cons_succ, List.getElem_cons_zero, Act.put, List.setIfInBounds_toArray, List.set_cons_zero, List.set_cons_succ]
        refine He.wpE_take (i := 5) (v := ?_) rfl (by kernel_rfl) (by kernel_rfl) (by kernel_rfl) (by kernel_rfl) (by kernel_rfl) (fun _ _ _ h => h) (by rfl) ?_ (by assumption) ?_
        rotate_left
        · (intro w' hSw; (try dsimp only at hSw); go_simp; first | done | with_reducible rfl)
        try simp only [List.getElem_toArray, List.getElem_cons_succ, List.getElem_cons_zero, Act.put, List.setIfInBounds_toArray, List.set_cons_zero, List.set_cons_succ]
        refine He.wpE_take (i := 6) (v := ?_) rfl (by kernel_rfl) (by kernel_rfl) (by kernel_rfl) (by kernel_rfl) (by kernel_rfl) (fun _ _ _ h => h) (by rfl) ?_ (by assumption) ?_
        rotate_left
        · (intro w' hSw; (try dsimp only at hSw); go_simp; first | done | with_reducible rfl)
        try simp only [List.getElem_toArray, List.getElem_cons_succ, List.getElem_cons_zero, Act.put, List.setIfInBounds_toArray, List.set_cons_zero, List.set_cons_succ]
        refine He.wpE_take (i := 7) (v := ?_) rfl (by kernel_rfl) (by kernel_rfl) (by kernel_rfl) (by kernel_rfl) (by kernel_rfl) (fun _ _ _ h => h) (by rfl) ?_ (by assumption) ?_
        rotate_left
        · (intro w' hSw; (try dsimp only at hSw); go_simp; first | done | with_reducible rfl)
        try simp only [List.getElem_toArray, List.getElem_cons_succ, List.getElem_cons_zero, Act.put, List.setIfInBounds_toArray, List.set_cons_zero, List.set_cons_succ]
        refine He.wpE_take (i := 8) (v := ?_) rfl (by kernel_rfl) (by kernel_rfl) (by kernel_rfl) (by kernel_rfl) (by kernel_rfl) (fun _ _ _ h => h) (by rfl) ?_ (by assumption) ?_
        rotate_left
        · (intro w' hSw; (try dsimp only at hSw); go_simp; first | done | with_reducible rfl)
        try simp only [List.getElem_toArray, List.getElem_cons_succ, List.getElem_cons_zero, Act.put, List.setIfInBounds_toArray, List.set_cons_zero, List.set_cons_succ]
        refine He.wpE_take (i := 9) (v := ?_) rfl (by kernel_rfl) (by kernel_rfl) (by kernel_rfl) (by kernel_rfl) (by kernel_rfl) (fun _ _ _ h => h) (by rfl) ?_ (by assumption) ?_
        rotate_left
        · (intro w' hSw; (try dsimp only at hSw); go_simp; first | done | with_reducible rfl)
        try simp only [List.getElem_toArray, List.getElem_cons_succ, List.getElem_cons_zero, Act.put, List.setIfInBounds_toArray, List.set_cons_zero, List.set_cons_succ]
        refine He.wpE_take (i := 10) (v := ?_) rfl (by kernel_rfl) (by kernel_rfl) (by kernel_rfl) (by kernel_rfl) (by kernel_rfl) (fun _ _ _ h => h) (by rfl) ?_ (by assumption) ?_
        rotate_left
        · (intro w' hSw; (try dsimp only at hSw); go_simp; first | done | with_reducible rfl)
        try simp only [List.getElem_toArray, List.getElem_cons_succ, List.getElem_cons_zero, Act.put, List.setIfInBounds_toArray, List.set_cons_zero, List.set_cons_succ]
        refine He.wpE_take (i := 11) (v := ?_) rfl (by kernel_rfl) (by kernel_rfl) (by kernel_rfl) (by kernel_rfl) (by kernel_rfl) (fun _ _ _ h => h) (by rfl) ?_ (by assumption) ?_
        rotate_left
        · (intro w' hSw; (try dsimp only at hSw); go_simp; first | done | with_reducible rfl)
        try simp only [List.getElem_toArray, List.getElem_cons_succ, List.getElem_cons_zero, Act.put, List.setIfInBounds_toArray, List.set_cons_zero, List.set_cons_succ]
        refine He.wpE_take (i := 14) (v := ?_) rfl (by kernel_rfl) (by kernel_rfl) (by kernel_rfl) (by kernel_rfl) (by kernel_rfl) (fun _ _ _ h => h) (by rfl) ?_ (by assumption) ?_
        rotate_left
        · (intro w' hSw; (try dsimp only at hSw); go_simp; first | done | with_reducible rfl)
        try simp only [List.getElem_toArray, List.getElem_cons_succ, List.getElem_cons_zero, Act.put, List.setIfInBounds_toArray, List.set_cons_zero, List.set_cons_succ]
        refine He.wpE_take (i := 15) (v := ?_) rfl (by kernel_rfl) (by kernel_rfl) (by kernel_rfl) (by kernel_rfl) (by kernel_rfl) (fun _ _ _ h => h) (by rfl) ?_ (by assumption) ?_
        rotate_left
        · (intro w' hSw; (try dsimp only at hSw); go_simp; first | done | with_reducible rfl)
        try simp only [List.getElem_toArray, List.getElem_cons_succ, List.getElem_cons_zero, Act.put, List.setIfInBounds_toArray, List.set_cons_zero, List.set_cons_succ]
        have TB0 := Lib.hid HQ.out.tb
        obtain ⟨tv0, htv0⟩ := TB0.out
        clear TB0
        refine He.wpE_one (i := 12) (by kernel_rfl) rfl (by rfl) (fun K hK => ?_)
        go_simp
        refine (AC.out _ _ htv0).mono ?_
        rintro e z1 ⟨v1, rfl, hmz, hr1⟩
        have HZ1 := Lib.hid (HQ.out.mod hmz)
        have Sz1 : z1.cell? ⟨w.heap.size + 1, 0, none⟩ = some (.slice ra2 l1.length rc2) := HZ1.out.bl.cell 0
        have HR1 := Lib.hid hr1
        clear hr1 htv0
        refine hK.out _ _ (fun _ => Sz1) ?_
        clear hK K hmz
        try simp only [Act.put, List.setIfInBounds_toArray, List.set_cons_zero, List.set_cons_succ]
        refine He.wpE_one (i := 13) (by kernel_rfl) rfl (by rfl) (fun K hK => ?_)
        go_simp
        refine (RF.out _ _ _ HR1.out).mono ?_
        rintro e z2 ⟨v2, rfl, hmz, hr2⟩
        have HZ2 := Lib.hid (HZ1.out.mod hmz)
        have Sz2 : z2.cell? ⟨w.heap.size + 1, 0, none⟩ = some (.slice ra2 l1.length rc2) := HZ2.out.bl.cell 0
        have HR2 := Lib.hid hr2
        clear hr2
        refine hK.out _ _ (fun _ => Sz2) ?_
        clear hK K hmz
        try simp only [Act.put, List.setIfInBounds_toArray, List.set_cons_zero, List.set_cons_succ]
        refine He.wpE_one (i := 16) (by kernel_rfl) rfl (by rfl) (fun K hK => ?_)
        go_simp
        refine (SC.out _ _ _ _ _ HR2.out HZ2.out.rf).mono ?_
        rintro e z3 ⟨rfl, hmz⟩
        have HZ3 := Lib.hid (HZ2.out.mod hmz)
        have Sz3 : z3.cell? ⟨w.heap.size + 1, 0, none⟩ = some (.slice ra2 l1.length rc2) := HZ3.out.bl.cell 0
        refine hK.out _ _ (fun _ => Sz3) ?_
        clear hK K hmz
        try simp only [Act.put, List.setIfInBounds_toArray, List.set_cons_zero, List.set_cons_succ]
        refine He.wpE_take (i := 17) (v := ?_) rfl (by kernel_rfl) (by kernel_rfl) (by kernel_rfl) (by kernel_rfl) (by kernel_rfl) (fun _ _ _ h => h) (by rfl) ?_ (by assumption) ?_
        rotate_left
        · (intro w' hSw; (try dsimp only at hSw); go_simp; first | done | with_reducible rfl)
        try simp only [List.getElem_toArray, List.getElem_cons_succ, List.getElem_cons_zero, Act.put, List.setIfInBounds_toArray, List.set_cons_zero, List.set_cons_succ]
        refine He.wpE_take (i := 18) (v := ?_) rfl (by kernel_rfl) (by kernel_rfl) (by kernel_rfl) (by kernel_rfl) (by kernel_rfl) (fun _ _ _ h => h) (by rfl) ?_ (by assumption) ?_
        rotate_left
        · (intro w' hSw; (try dsimp only at hSw); go_simp; first | done | with_reducible rfl)
        try simp only [List.getElem_toArray, List.getElem_cons_succ, List.getElem_cons_zero, Act.put, List.setIfInBounds_toArray, List.set_cons_zero, List.set_cons_succ]
        refine He.wpE_take (i := 19) (v := ?_) rfl (by kernel_rfl) (by kernel_rfl) (by kernel_rfl) (by kernel_rfl) (by kernel_rfl) (fun _ _ _ h => h) (by rfl) ?_ (by assumption) ?_
        rotate_left
        · (intro w' hSw; (try dsimp only at hSw); go_simp; first | done | with_reducible rfl)
        try simp only [List.getElem_toArray, List.getElem_cons_succ, List.getElem_cons_zero, Act.put, List.setIfInBounds_toArray, List.set_cons_zero, List.set_cons_succ]
        refine He.wpE_take (i := 20) (v := ?_) rfl (by kernel_rfl) (by kernel_rfl) (by kernel_rfl) (by kernel_rfl) (by kernel_rfl) (fun _ _ _ h => h) (by rfl) ?_ (by assumption) ?_
        rotate_left
        · (intro w' hSw; (try dsimp only at hSw); go_simp; first | done | with_reducible rfl)
        try simp only [List.getElem_toArray, List.getElem_cons_succ, List.getElem_cons_zero, Act.put, List.setIfInBounds_toArray, List.set_cons_zero, List.set_cons_succ]
        refine He.wpE_take (i := 22) (v := ?_) rfl (by kernel_rfl) (by kernel_rfl) (by kernel_rfl) (by kernel_rfl) (by kernel_rfl) (fun _ _ _ h => h) (by rfl) ?_ (by assumption) ?_
        rotate_left
        · (intro w' hSw; (try dsimp only at hSw); go_simp; first | done | with_reducible rfl)
        try simp only [List.getElem_toArray, List.getElem_cons_succ, List.getElem_cons_zero, Act.put, List.setIfInBounds_toArray, List.set_cons_zero, List.set_cons_succ]
        obtain ⟨tv3, htv3⟩ := HZ3.out.tb
        refine He.wpE_one (i := 21) (by kernel_rfl) rfl (by rfl) (fun K hK => ?_)
        go_simp
        refine (TX.out _ _ htv3).mono ?_
        rintro e z4 ⟨rfl, hmz⟩
        have HZ4 := Lib.hid (HZ3.out.mod hmz)
        have Sz4 : z4.cell? ⟨w.heap.size + 1, 0, none⟩ = some (.slice ra2 l1.length rc2) := HZ4.out.bl.cell 0
        clear htv3
        refine hK.out _ _ (fun _ => Sz4) ?_
        clear hK K hmz
        try simp only [Act.put, List.setIfInBounds_toArray, List.set_cons_zero, List.set_cons_succ]
        refine He.wpE_one (i := 23) (by kernel_rfl) rfl (by rfl) (fun K hK => ?_)
        go_simp
        refine (RX.out _ _ _ HZ4.out.rf).mono ?_
        rintro e z5 ⟨rfl, hmz⟩
        have HZ5 := Lib.hid (HZ4.out.mod hmz)
        have Sz5 : z5.cell? ⟨w.heap.size + 1, 0, none⟩ = some (.slice ra2 l1.length rc2) := HZ5.out.bl.cell 0
        refine hK.out _ _ (fun _ => Sz5) ?_
        clear hK K hmz
        try simp only [Act.put, List.setIfInBounds_toArray, List.set_cons_zero, List.set_cons_succ]
        refine He.wpE_take (i := 24) (v := ?_) rfl (by kernel_rfl) (by kernel_rfl) (by kernel_rfl) (by kernel_rfl) (by kernel_rfl) (fun _ _ _ h => h) (by rfl) ?_ (by assumption) ?_
        rotate_left
        · (intro w' hSw; (try dsimp only at hSw); go_simp; first | done | with_reducible rfl)
        try simp only [List.getElem_toArray, List.getElem_cons_succ, List.getElem_cons_zero, Act.put, List.setIfInBounds_toArray, List.set_cons_zero, List.set_cons_succ]
        refine He.wpE_take (i := 25) (v := ?_) rfl (by kernel_rfl) (by kernel_rfl) (by kernel_rfl) (by kernel_rfl) (by kernel_rfl) (fun _ _ _ h => h) (by rfl) ?_ (by assumption) ?_
        rotate_left
        · (intro w' hSw; (try dsimp only at hSw); go_simp; first | done | with_reducible rfl)
        try simp only [List.getElem_toArray, List.getElem_cons_succ, List.getElem_cons_zero, Act.put, List.setIfInBounds_toArray, List.set_cons_zero, List.set_cons_succ]
        refine He.wpE_done (by kernel_rfl) ?_
        try simp only [Act.put, List.setIfInBounds_toArray, List.set_cons_zero, List.set_cons_succ]
        go_wp2_with fail
        go_roundw
        case rel => exact ⟨i + 1, t, l1, _, by omega, by omega, rfl, by go_num, HG1.out, HZ5.out⟩
        case measure => simp [intOf]; omega
      have q0 : (xk == 0) = false := by simpa using k0
      by_cases k1 : xk = 1
      · subst k1
        have RO : Hid (∀ v w, RefAt w 0 v l → Calls Try.prog 33 #[.agg #[v], .int .i64 x1, .int .i64 x2] w fun e w' => ∃ v', e = .returned (.tuple #[.agg #[v'], .bool (mayL l x1 x2).1, .int .i64 (mayL l x1 x2).2]) ∧ Mod w w' [] ∧ RefAt w' 0 v' (takeL l x1 x2)) :=
          Lib.hid (fun v w h => by have h := rtake_calls 0 v l x1 x2 w h (by omega) (fun s hs => (HG.out.rg s hs).2.2); rw [rTake_eq HG.out] at h; exact h)
        have OC := Lib.hid (fun v w h => take_calls t v l x1 x2 w h (by omega) HG.out.up)
        have MC := Lib.hid (fun v w h => may_calls t v l x1 x2 w h (by omega) HG.out.up)
        have HG1 := Lib.hid (good_take HG.out x1 x2)
        generalize takeL l x1 x2 = l1 at *
        generalize (mayL l x1 x2).1 = B at *
        generalize (mayL l x1 x2).2 = E at *
        have hnE : (E != E) = false := by simp
        have hnB : (B != B) = false := by simp
        clear HG
        go_wp2_with fail
        generalize wr.alloc _ = W at HPW HX ⊢
        obtain ⟨tv, htv⟩ := HPW.out.tb
        (with_reducible refine (MC.out _ _ htv).mono ?_)
        rintro e w3 ⟨rfl, hm3⟩
        have HP3 := Lib.hid (HPW.out.mod hm3)
        have HX3 := Lib.hid (HX.out.mod hm3 (by simp))
        have e0 := HX3.out.cell 0
        have e1 := HX3.out.cell 1
        have e2 := HX3.out.cell 2
        clear hm3 htv HPW HX
        go_wp2_with fail
        obtain ⟨tv, htv⟩ := HP3.out.tb
        (with_reducible refine (OC.out _ _ htv).mono ?_)
        rintro e w4 ⟨rfl, hm4⟩
        have HP4 := Lib.hid (HP3.out.tab htv hm4)
        have HX4 := Lib.hid (HX3.out.mod hm4.choose_spec.2.1 (tabP_not (w' := w4) (l' := l1) htv HX3.out (by decide) (by decide)))
        clear e0 e1 e2
        have e0 := HX4.out.cell 0
        have e1 := HX4.out.cell 1
        have e2 := HX4.out.cell 2
        have b0 := HP4.out.bl.cell 0
        clear hm4 htv HP3 HX3
        go_wp2_with fail
        (with_reducible refine (RO.out _ _ HP4.out.rf).mono ?_)
        rintro e w5 ⟨rv2, rfl, hm5, hr5⟩
        obtain ⟨ra2, rc2, rfl⟩ := Rw.own_slice hr5
        have HQ := Lib.hid (HP4.out.step hm5 hr5)
        have HB5 := Lib.hid (HP4.out.bl.mod hm5 (by simp))
        have hl5 := HB5.out.lt
        clear b0 e0 e1 e2
        have b0 := HB5.out.cell 0
        have b1 := HB5.out.free 0
        have HX5 := Lib.hid (HX4.out.mod hm5 (by simp))
        have e0 := HX5.out.cell 0
        clear hm5 hr5 HP4 HX4
        go_wp2_with fail
        clear b0 b1 e0 hl5 HB5 HX5
        have hl1 := HG1.out.len
        have AC := Lib.hid (fun v w h => all_calls t v l1 w h (by omega))
        have RF := Lib.hid (fun base v w h => refs_calls base v l1 w h (by omega))
        have SC := Lib.hid (fun b1 b2 v1 v2 w h1 h2 => same_calls b1 b2 v1 v2 l1 l1 w h1 h2 (by omega) (by omega))
        have TX := Lib.hid (fun v w h => text_calls t v l1 w h (by omega) HG1.out.sb)
        have RX := Lib.hid (fun b v w h => rtext_calls b v l1 w h (by omega) HG1.out.sb)
        rw [decide_eq_true (rfl : l1 = l1)] at SC
        have hq : ((txt l1).toList == (txt l1).toList) = true := by simp
        generalize txt l1 = T at TX RX hq
        have c0 := HQ.out.bl.cell 0
        refine He.wp_region_e 25 (fun w' => w'.cell? ⟨w.heap.size + 1, 0, none⟩ = some (.slice ra2 l1.length rc2)) (by kernel_rfl) (keepC (Mod.refl _ _).drew c0) (fun S0 => ?_)
        have HQ := Lib.hid (HQ.out.mod (Mod.refl _ _).drew)
        clear c0
        refine He.wpE_take (i := 0) (v := ?_) rfl (by kernel_rfl) (by kernel_rfl) (by kernel_rfl) (by kernel_rfl) (by kernel_rfl) (fun _ _ _ h => h) (by rfl) ?_ (by assumption) ?_
        rotate_left
        · (intro w' hSw; (try dsimp only at hSw); go_simp; first | done | with_reducible rfl)
        try simp only [List.getElem_toArray, List.getElem_cons_succ, List.getElem_cons_zero, Act.put, List.setIfInBounds_toArray, List.set_cons_zero, List.set_cons_succ]
        refine He.wpE_take (i := 1) (v := ?_) rfl (by kernel_rfl) (by kernel_rfl) (by kernel_rfl) (by kernel_rfl) (by kernel_rfl) (fun _ _ _ h => h) (by rfl) ?_ (by assumption) ?_
        rotate_left
        · (intro w' hSw; (try dsimp only at hSw); go_simp; first | done | with_reducible rfl)
        try simp only [List.getElem_toArray, List.getElem_cons_succ, List.getElem_cons_zero, Act.put, List.setIfInBounds_toArray, List.set_cons_zero, List.set_cons_succ]
        refine He.wpE_take (i := 2) (v := ?_) rfl (by kernel_rfl) (by kernel_rfl) (by kernel_rfl) (by kernel_rfl) (by kernel_rfl) (fun _ _ _ h => h) (by rfl) ?_ (by assumption) ?_
        rotate_left
        · (intro w' hSw; (try dsimp only at hSw); go_simp; first | done | with_reducible rfl)
        try simp only [List.getElem_toArray, List.getElem_cons_succ, List.getElem_cons_zero, Act.put, List.setIfInBounds_toArray, List.set_cons_zero, List.set_cons_succ]
        refine He.wpE_take (i := 3) (v := ?_) rfl (by kernel_rfl) (by kernel_rfl) (by kernel_rfl) (by kernel_rfl) (by kernel_rfl) (fun _ _ _ h => h) (by rfl) ?_ (by assumption) ?_
        rotate_left
        · (intro w' hSw; (try dsimp only at hSw); go_simp; first | done | with_reducible rfl)
        try simp only [List.getElem_toArray, List.getElem_cons_succ, List.getElem_cons_zero, Act.put, List.setIfInBounds_toArray, List.set_cons_zero, List.set_cons_succ]
        refine He.wpE_take (i := 4) (v := ?_) rfl (by kernel_rfl) (by kernel_rfl) (by kernel_rfl) (by kernel_rfl) (by kernel_rfl) (fun _ _ _ h => h) (by rfl) ?_ (by assumption) ?_
        rotate_left
        · (intro w' hSw; (try dsimp only at hSw); go_simp; first | done | with_reducible rfl)
        try simp only [List.getElem_toArray, List.getElem_cons_succ, List.getElem_cons_zero, Act.put, List.setIfInBounds_toArray, List.set_cons_zero, List.set_cons_succ]
        refine He.wpE_take (i := 5) (v := ?_) rfl (by kernel_rfl) (by kernel_rfl) (by kernel_rfl) (by kernel_rfl) (by kernel_rfl) (fun _ _ _ h => h) (by rfl) ?_ (by assumption) ?_
        rotate_left
        · (intro w' hSw; (try dsimp only at hSw); go_simp; first | done | with_reducible rfl)
        try simp only [List.getElem_toArray, List.getElem_cons_succ, List.getElem_cons_zero, Act.put, List.setIfInBounds_toArray, List.set_cons_zero, List.set_cons_succ]
        refine He.wpE_take (i := 6) (v := ?_) rfl (by kernel_rfl) (by kernel_rfl) (by kernel_rfl) (by kernel_rfl) (by kernel_rfl) (fun _ _ _ h => h) (by rfl) ?_ (by assumption) ?_
        rotate_left
        · (intro w' hSw; (try dsimp only at hSw); go_simp; first | done | with_reducible rfl)
        try simp only [List.getElem_toArray, List.getElem_cons_succ, List.getElem_cons_zero, Act.put, List.setIfInBounds_toArray, List.set_cons_zero, List.set_cons_succ]
        refine He.wpE_take (i := 7) (v := ?_) rfl (by kernel_rfl) (by kernel_rfl) (by kernel_rfl) (by kernel_rfl) (by kernel_rfl) (fun _ _ _ h => h) (by rfl) ?_ (by assumption) ?_
        rotate_left
        · (intro w' hSw; (try dsimp only at hSw); go_simp; first | done | with_reducible rfl)
        try simp only [List.getElem_toArray, List.getElem_cons_succ, List.getElem_cons_zero, Act.put, List.setIfInBounds_toArray, List.set_cons_zero, List.set_cons_succ]
        refine He.wpE_take (i := 8) (v := ?_) rfl (by kernel_rfl) (by kernel_rfl) (by kernel_rfl) (by kernel_rfl) (by kernel_rfl) (fun _ _ _ h => h) (by rfl) ?_ (by assumption) ?_
        rotate_left
        · (intro w' hSw; (try dsimp only at hSw); go_simp; first | done | with_reducible rfl)
        try simp only [List.getElem_toArray, List.getElem_cons_succ, List.getElem_cons_zero, Act.put, List.setIfInBounds_toArray, List.set_cons_zero, List.set_cons_succ]
        refine He.wpE_take (i := 9) (v := ?_) rfl (by kernel_rfl) (by kernel_rfl) (by kernel_rfl) (by kernel_rfl) (by kernel_rfl) (fun _ _ _ h => h) (by rfl) ?_ (by assumption) ?_
        rotate_left
        · (intro w' hSw; (try dsimp only at hSw); go_simp; first | done | with_reducible rfl)
        try simp only [List.getElem_toArray, List.getElem_cons_succ, List.getElem_cons_zero, Act.put, List.setIfInBounds_toArray, List.set_cons_zero, List.set_cons_succ]
        refine He.wpE_take (i := 10) (v := ?_) rfl (by kernel_rfl) (by kernel_rfl) (by kernel_rfl) (by kernel_rfl) (by kernel_rfl) (fun _ _ _ h => h) (by rfl) ?_ (by assumption) ?_
        rotate_left
        · (intro w' hSw; (try dsimp only at hSw); go_simp; first | done | with_reducible rfl)
        try simp only [List.getElem_toArray, List.getElem_cons_succ, List.getElem_cons_zero, Act.put, List.setIfInBounds_toArray, List.set_cons_zero, List.set_cons_succ]
        refine He.wpE_take (i := 11) (v := ?_) rfl (by kernel_rfl) (by kernel_rfl) (by kernel_rfl) (by kernel_rfl) (by kernel_rfl) (fun _ _ _ h => h) (by rfl) ?_ (by assumption) ?_
        rotate_left
        · (intro w' hSw; (try dsimp only at hSw); go_simp; first | done | with_reducible rfl)
        try simp only [List.getElem_toArray, List.getElem_cons_succ, List.getElem_cons_zero, Act.put, List.setIfInBounds_toArray, List.set_cons_zero, List.set_cons_succ]
        refine He.wpE_take (i := 14) (v := ?_) rfl (by kernel_rfl) (by kernel_rfl) (by kernel_rfl) (by kernel_rfl) (by kernel_rfl) (fun _ _ _ h => h) (by rfl) ?_ (by assumption) ?_
        rotate_left
        · (intro w' hSw; (try dsimp only at hSw); go_simp; first | done | with_reducible rfl)
        try simp only [List.getElem_toArray, List.getElem_cons_succ, List.getElem_cons_zero, Act.put, List.setIfInBounds_toArray, List.set_cons_zero, List.set_cons_succ]
        refine He.wpE_take (i := 15) (v := ?_) rfl (by kernel_rfl) (by kernel_rfl) (by kernel_rfl) (by kernel_rfl) (by kernel_rfl) (fun _ _ _ h => h) (by rfl) ?_ (by assumption) ?_
        rotate_left
        · (intro w' hSw; (try dsimp only at hSw); go_simp; first | done | with_reducible rfl)
        try simp only [List.getElem_toArray, List.getElem_cons_succ, List.getElem_cons_zero, Act.put, List.setIfInBounds_toArray, List.set_cons_zero, List.set_cons_succ]
        have TB0 := Lib.hid HQ.out.tb
        obtain ⟨tv0, htv0⟩ := TB0.out
        clear TB0
        refine He.wpE_one (i := 12) (by kernel_rfl) rfl (by rfl) (fun K hK => ?_)
        go_simp
        refine (AC.out _ _ htv0).mono ?_
        rintro e z1 ⟨v1, rfl, hmz, hr1⟩
        have HZ1 := Lib.hid (HQ.out.mod hmz)
        have Sz1 : z1.cell? ⟨w.heap.size + 1, 0, none⟩ = some (.slice ra2 l1.length rc2) := HZ1.out.bl.cell 0
        have HR1 := Lib.hid hr1
        clear hr1 htv0
        refine hK.out _ _ (fun _ => Sz1) ?_
        clear hK K hmz
        try simp only [Act.put, List.setIfInBounds_toArray, List.set_cons_zero, List.set_cons_succ]
        refine He.wpE_one (i := 13) (by kernel_rfl) rfl (by rfl) (fun K hK => ?_)
        go_simp
        refine (RF.out _ _ _ HR1.out).mono ?_
        rintro e z2 ⟨v2, rfl, hmz, hr2⟩
        have HZ2 := Lib.hid (HZ1.out.mod hmz)
        have Sz2 : z2.cell? ⟨w.heap.size + 1, 0, none⟩ = some (.slice ra2 l1.length rc2) := HZ2.out.bl.cell 0
        have HR2 := Lib.hid hr2
        clear hr2
        refine hK.out _ _ (fun _ => Sz2) ?_
        clear hK K hmz
        try simp only [Act.put, List.setIfInBounds_toArray, List.set_cons_zero, List.set_cons_succ]
        refine He.wpE_one (i := 16) (by kernel_rfl) rfl (by rfl) (fun K hK => ?_)
        go_simp
        refine (SC.out _ _ _ _ _ HR2.out HZ2.out.rf).mono ?_
        rintro e z3 ⟨rfl, hmz⟩
        have HZ3 := Lib.hid (HZ2.out.mod hmz)
        have Sz3 : z3.cell? ⟨w.heap.size + 1, 0, none⟩ = some (.slice ra2 l1.length rc2) := HZ3.out.bl.cell 0
        refine hK.out _ _ (fun _ => Sz3) ?_
        clear hK K hmz
        try simp only [Act.put, List.setIfInBounds_toArray, List.set_cons_zero, List.set_cons_succ]
        refine He.wpE_take (i := 17) (v := ?_) rfl (by kernel_rfl) (by kernel_rfl) (by kernel_rfl) (by kernel_rfl) (by kernel_rfl) (fun _ _ _ h => h) (by rfl) ?_ (by assumption) ?_
        rotate_left
        · (intro w' hSw; (try dsimp only at hSw); go_simp; first | done | with_reducible rfl)
        try simp only [List.getElem_toArray, List.getElem_cons_succ, List.getElem_cons_zero, Act.put, List.setIfInBounds_toArray, List.set_cons_zero, List.set_cons_succ]
        refine He.wpE_take (i := 18) (v := ?_) rfl (by kernel_rfl) (by kernel_rfl) (by kernel_rfl) (by kernel_rfl) (by kernel_rfl) (fun _ _ _ h => h) (by rfl) ?_ (by assumption) ?_
        rotate_left
        · (intro w' hSw; (try dsimp only at hSw); go_simp; first | done | with_reducible rfl)
        try simp only [List.getElem_toArray, List.getElem_cons_succ, List.getElem_cons_zero, Act.put, List.setIfInBounds_toArray, List.set_cons_zero, List.set_cons_succ]
        refine He.wpE_take (i := 19) (v := ?_) rfl (by kernel_rfl) (by kernel_rfl) (by kernel_rfl) (by kernel_rfl) (by kernel_rfl) (fun _ _ _ h => h) (by rfl) ?_ (by assumption) ?_
        rotate_left
        · (intro w' hSw; (try dsimp only at hSw); go_simp; first | done | with_reducible rfl)
        try simp only [List.getElem_toArray, List.getElem_cons_succ, List.getElem_cons_zero, Act.put, List.setIfInBounds_toArray, List.set_cons_zero, List.set_cons_succ]
        refine He.wpE_take (i := 20) (v := ?_) rfl (by kernel_rfl) (by kernel_rfl) (by kernel_rfl) (by kernel_rfl) (by kernel_rfl) (fun _ _ _ h => h) (by rfl) ?_ (by assumption) ?_
        rotate_left
        · (intro w' hSw; (try dsimp only at hSw); go_simp; first | done | with_reducible rfl)
        try simp only [List.getElem_toArray, List.getElem_cons_succ, List.getElem_cons_zero, Act.put, List.setIfInBounds_toArray, List.set_cons_zero, List.set_cons_succ]
        refine He.wpE_take (i := 22) (v := ?_) rfl (by kernel_rfl) (by kernel_rfl) (by kernel_rfl) (by kernel_rfl) (by kernel_rfl) (fun _ _ _ h => h) (by rfl) ?_ (by assumption) ?_
        rotate_left
        · (intro w' hSw; (try dsimp only at hSw); go_simp; first | done | with_reducible rfl)
        try simp only [List.getElem_toArray, List.getElem_cons_succ, List.getElem_cons_zero, Act.put, List.setIfInBounds_toArray, List.set_cons_zero, List.set_cons_succ]
        obtain ⟨tv3, htv3⟩ := HZ3.out.tb
        refine He.wpE_one (i := 21) (by kernel_rfl) rfl (by rfl) (fun K hK => ?_)
        go_simp
        refine (TX.out _ _ htv3).mono ?_
        rintro e z4 ⟨rfl, hmz⟩
        have HZ4 := Lib.hid (HZ3.out.mod hmz)
        have Sz4 : z4.cell? ⟨w.heap.size + 1, 0, none⟩ = some (.slice ra2 l1.length rc2) := HZ4.out.bl.cell 0
        clear htv3
        refine hK.out _ _ (fun _ => Sz4) ?_
        clear hK K hmz
        try simp only [Act.put, List.setIfInBounds_toArray, List.set_cons_zero, List.set_cons_succ]
        refine He.wpE_one (i := 23) (by kernel_rfl) rfl (by rfl) (fun K hK => ?_)
        go_simp
        refine (RX.out _ _ _ HZ4.out.rf).mono ?_
        rintro e z5 ⟨rfl, hmz⟩
        have HZ5 := Lib.hid (HZ4.out.mod hmz)
        have Sz5 : z5.cell? ⟨w.heap.size + 1, 0, none⟩ = some (.slice ra2 l1.length rc2) := HZ5.out.bl.cell 0
        refine hK.out _ _ (fun _ => Sz5) ?_
        clear hK K hmz
        try simp only [Act.put, List.setIfInBounds_toArray, List.set_cons_zero, List.set_cons_succ]
        refine He.wpE_take (i := 24) (v := ?_) rfl (by kernel_rfl) (by kernel_rfl) (by kernel_rfl) (by kernel_rfl) (by kernel_rfl) (fun _ _ _ h => h) (by rfl) ?_ (by assumption) ?_
        rotate_left
        · (intro w' hSw; (try dsimp only at hSw); go_simp; first | done | with_reducible rfl)
        try simp only [List.getElem_toArray, List.getElem_cons_succ, List.getElem_cons_zero, Act.put, List.setIfInBounds_toArray, List.set_cons_zero, List.set_cons_succ]
        refine He.wpE_take (i := 25) (v := ?_) rfl (by kernel_rfl) (by kernel_rfl) (by kernel_rfl) (by kernel_rfl) (by kernel_rfl) (fun _ _ _ h => h) (by rfl) ?_ (by assumption) ?_
        rotate_left
        · (intro w' hSw; (try dsimp only at hSw); go_simp; first | done | with_reducible rfl)
        try simp only [List.getElem_toArray, List.getElem_cons_succ, List.getElem_cons_zero, Act.put, List.setIfInBounds_toArray, List.set_cons_zero, List.set_cons_succ]
        refine He.wpE_done (by kernel_rfl) ?_
        try simp only [Act.put, List.setIfInBounds_toArray, List.set_cons_zero, List.set_cons_succ]
        go_wp2_with fail
        go_roundw
        case rel => exact ⟨i + 1, t, l1, _, by omega, by omega, rfl, by go_num, HG1.out, HZ5.out⟩
        case measure => simp [intOf]; omega
      have q1 : (xk == 1) = false := by simpa using k1
      by_cases k2 : xk = 2
      · subst k2
        have RO : Hid (∀ v w, RefAt w 0 v l → Calls Try.prog 34 #[.agg #[v], .int .i64 x1] w fun e w' => ∃ v', e = .returned (.tuple #[.agg #[v'], .int .i64 (closeL l x1).2]) ∧ Mod w w' [] ∧ RefAt w' 0 v' (closeL l x1).1) :=
          Lib.hid (fun v w h => by have h := rclose_calls 0 v l x1 w h (by omega); rw [rClose_eq HG.out] at h; exact h)
        have OC := Lib.hid (fun v w h => close_calls t v l x1 w h (by omega) HG.out.up)
        have HG1 := Lib.hid (good_close HG.out x1)
        generalize (closeL l x1).1 = l1 at *
        generalize (closeL l x1).2 = E at *
        have hnE : (E != E) = false := by simp
        clear HG
        go_wp2_with fail
        generalize wr.alloc _ = W at HPW HX ⊢
        (with_reducible refine (RO.out _ _ HPW.out.rf).mono ?_)
        rintro e w4 ⟨rv2, rfl, hm4, hr4⟩
        obtain ⟨ra2, rc2, rfl⟩ := Rw.own_slice hr4
        have HPS := Lib.hid (HPW.out.step hm4 hr4)
        have HX4 := Lib.hid (HX.out.mod hm4 (by simp))
        have HB4 := Lib.hid (HPW.out.bl.mod hm4 (by simp))
        have b0 := HB4.out.cell 0
        have b1 := HB4.out.free 0
        have e0 := HX4.out.cell 0
        have e1 := HX4.out.cell 1
        have e2 := HX4.out.cell 2
        have hl4 := HB4.out.lt
        clear hm4 hr4 HPW HX b00
        go_wp2_with fail
        obtain ⟨tv, htv⟩ := HPS.out.tb
        (with_reducible refine (OC.out _ _ htv).mono ?_)
        rintro e w5 ⟨rfl, hm5⟩
        have HQ := Lib.hid (HPS.out.tab htv hm5)
        clear hm5 htv HPS b0 b1 e0 e1 e2 hl4 HB4 HX4
        go_wp2_with fail
        have hl1 := HG1.out.len
        have AC := Lib.hid (fun v w h => all_calls t v l1 w h (by omega))
        have RF := Lib.hid (fun base v w h => refs_calls base v l1 w h (by omega))
        have SC := Lib.hid (fun b1 b2 v1 v2 w h1 h2 => same_calls b1 b2 v1 v2 l1 l1 w h1 h2 (by omega) (by omega))
        have TX := Lib.hid (fun v w h => text_calls t v l1 w h (by omega) HG1.out.sb)
        have RX := Lib.hid (fun b v w h => rtext_calls b v l1 w h (by omega) HG1.out.sb)
        rw [decide_eq_true (rfl : l1 = l1)] at SC
        have hq : ((txt l1).toList == (txt l1).toList) = true := by simp
        generalize txt l1 = T at TX RX hq
        have c0 := HQ.out.bl.cell 0
        refine He.wp_region_e 25 (fun w' => w'.cell? ⟨w.heap.size + 1, 0, none⟩ = some (.slice ra2 l1.length rc2)) (by kernel_rfl) (keepC (Mod.refl _ _).drew c0) (fun S0 => ?_)
        have HQ := Lib.hid (HQ.out.mod (Mod.refl _ _).drew)
        clear c0
        refine He.wpE_take (i := 0) (v := ?_) rfl (by kernel_rfl) (by kernel_rfl) (by kernel_rfl) (by kernel_rfl) (by kernel_rfl) (fun _ _ _ h => h) (by rfl) ?_ (by assumption) ?_
        rotate_left
        · (intro w' hSw; (try dsimp only at hSw); go_simp; first | done | with_reducible rfl)
        try simp only [List.getElem_toArray, List.getElem_cons_succ, List.getElem_cons_zero, Act.put, List.setIfInBounds_toArray, List.set_cons_zero, List.set_cons_succ]
        refine He.wpE_take (i := 1) (v := ?_) rfl (by kernel_rfl) (by kernel_rfl) (by kernel_rfl) (by kernel_rfl) (by kernel_rfl) (fun _ _ _ h => h) (by rfl) ?_ (by assumption) ?_
        rotate_left
        · (intro w' hSw; (try dsimp only at hSw); go_simp; first | done | with_reducible rfl)
        try simp only [List.getElem_toArray, List.getElem_cons_succ, List.getElem_cons_zero, Act.put, List.setIfInBounds_toArray, List.set_cons_zero, List.set_cons_succ]
        refine He.wpE_take (i := 2) (v := ?_) rfl (by kernel_rfl) (by kernel_rfl) (by kernel_rfl) (by kernel_rfl) (by kernel_rfl) (fun _ _ _ h => h) (by rfl) ?_ (by assumption) ?_
        rotate_left
        · (intro w' hSw; (try dsimp only at hSw); go_simp; first | done | with_reducible rfl)
        try simp only [List.getElem_toArray, List.getElem_cons_succ, List.getElem_cons_zero, Act.put, List.setIfInBounds_toArray, List.set_cons_zero, List.set_cons_succ]
        refine He.wpE_take (i := 3) (v := ?_) rfl (by kernel_rfl) (by kernel_rfl) (by kernel_rfl) (by kernel_rfl) (by kernel_rfl) (fun _ _ _ h => h) (by rfl) ?_ (by assumption) ?_
        rotate_left
        · (intro w' hSw; (try dsimp only at hSw); go_simp; first | done | with_reducible rfl)
        try simp only [List.getElem_toArray, List.getElem_cons_succ, List.getElem_cons_zero, Act.put, List.setIfInBounds_toArray, List.set_cons_zero, List.set_cons_succ]
        refine He.wpE_take (i := 4) (v := ?_) rfl (by kernel_rfl) (by kernel_rfl) (by kernel_rfl) (by kernel_rfl) (by kernel_rfl) (fun _ _ _ h => h) (by rfl) ?_ (by assumption) ?_
        rotate_left
        · (intro w' hSw; (try dsimp only at hSw); go_simp; first | done | with_reducible rfl)
        try simp only [List.getElem_toArray, List.getElem_cons_succ, List.getElem_cons_zero, Act.put, List.setIfInBounds_toArray, List.set_cons_zero, List.set_cons_succ]
        refine He.wpE_take (i := 5) (v := ?_) rfl (by kernel_rfl) (by kernel_rfl) (by kernel_rfl) (by kernel_rfl) (by kernel_rfl) (fun _ _ _ h => h) (by rfl) ?_ (by assumption) ?_
        rotate_left
        · (intro w' hSw; (try dsimp only at hSw); go_simp; first | done | with_reducible rfl)
        try simp only [List.getElem_toArray, List.getElem_cons_succ, List.getElem_cons_zero, Act.put, List.setIfInBounds_toArray, List.set_cons_zero, List.set_cons_succ]
        refine He.wpE_take (i := 6) (v := ?_) rfl (by kernel_rfl) (by kernel_rfl) (by kernel_rfl) (by kernel_rfl) (by kernel_rfl) (fun _ _ _ h => h) (by rfl) ?_ (by assumption) ?_
        rotate_left
        · (intro w' hSw; (try dsimp only at hSw); go_simp; first | done | with_reducible rfl)
        try simp only [List.getElem_toArray, List.getElem_cons_succ, List.getElem_cons_zero, Act.put, List.setIfInBounds_toArray, List.set_cons_zero, List.set_cons_succ]
        refine He.wpE_take (i := 7) (v := ?_) rfl (by kernel_rfl) (by kernel_rfl) (by kernel_rfl) (by kernel_rfl) (by kernel_rfl) (fun _ _ _ h => h) (by rfl) ?_ (by assumption) ?_
        rotate_left
        · (intro w' hSw; (try dsimp only at hSw); go_simp; first | done | with_reducible rfl)
        try simp only [List.getElem_toArray, List.getElem_cons_succ, List.getElem_cons_zero, Act.put, List.setIfInBounds_toArray, List.set_cons_zero, List.set_cons_succ]
        refine He.wpE_take (i := 8) (v := ?_) rfl (by kernel_rfl) (by kernel_rfl) (by kernel_rfl) (by kernel_rfl) (by kernel_rfl) (fun _ _ _ h => h) (by rfl) ?_ (by assumption) ?_
        rotate_left
        · (intro w' hSw; (try dsimp only at hSw); go_simp; first | done | with_reducible rfl)
        try simp only [List.getElem_toArray, List.getElem_cons_succ, List.getElem_cons_zero, Act.put, List.setIfInBounds_toArray, List.set_cons_zero, List.set_cons_succ]
        refine He.wpE_take (i := 9) (v := ?_) rfl (by kernel_rfl) (by kernel_rfl) (by kernel_rfl) (by kernel_rfl) (by kernel_rfl) (fun _ _ _ h => h) (by rfl) ?_ (by assumption) ?_
        rotate_left
        · (intro w' hSw; (try dsimp only at hSw); go_simp; first | done | with_reducible rfl)
        try simp only [List.getElem_toArray, List.getElem_cons_succ, List.getElem_cons_zero, Act.put, List.setIfInBounds_toArray, List.set_cons_zero, List.set_cons_succ]
        refine He.wpE_take (i := 10) (v := ?_) rfl (by kernel_rfl) (by kernel_rfl) (by kernel_rfl) (by kernel_rfl) (by kernel_rfl) (fun _ _ _ h => h) (by rfl) ?_ (by assumption) ?_
        rotate_left
        · (intro w' hSw; (try dsimp only at hSw); go_simp; first | done | with_reducible rfl)
        try simp only [List.getElem_toArray, List.getElem_cons_succ, List.getElem_cons_zero, Act.put, List.setIfInBounds_toArray, List.set_cons_zero, List.set_cons_succ]
        refine He.wpE_take (i := 11) (v := ?_) rfl (by kernel_rfl) (by kernel_rfl) (by kernel_rfl) (by kernel_rfl) (by kernel_rfl) (fun _ _ _ h => h) (by rfl) ?_ (by assumption) ?_
        rotate_left
        · (intro w' hSw; (try dsimp only at hSw); go_simp; first | done | with_reducible rfl)
        try simp only [List.getElem_toArray, List.getElem_cons_succ, List.getElem_cons_zero, Act.put, List.setIfInBounds_toArray, List.set_cons_zero, List.set_cons_succ]
        refine He.wpE_take (i := 14) (v := ?_) rfl (by kernel_rfl) (by kernel_rfl) (by kernel_rfl) (by kernel_rfl) (by kernel_rfl) (fun _ _ _ h => h) (by rfl) ?_ (by assumption) ?_
        rotate_left
        · (intro w' hSw; (try dsimp only at hSw); go_simp; first | done | with_reducible rfl)
        try simp only [List.getElem_toArray, List.getElem_cons_succ, List.getElem_cons_zero, Act.put, List.setIfInBounds_toArray, List.set_cons_zero, List.set_cons_succ]
        refine He.wpE_take (i := 15) (v := ?_) rfl (by kernel_rfl) (by kernel_rfl) (by kernel_rfl) (by kernel_rfl) (by kernel_rfl) (fun _ _ _ h => h) (by rfl) ?_ (by assumption) ?_
        rotate_left
        · (intro w' hSw; (try dsimp only at hSw); go_simp; first | done | with_reducible rfl)
        try simp only [List.getElem_toArray, List.getElem_cons_succ, List.getElem_cons_zero, Act.put, List.setIfInBounds_toArray, List.set_cons_zero, List.set_cons_succ]
        have TB0 := Lib.hid HQ.out.tb
        obtain ⟨tv0, htv0⟩ := TB0.out
        clear TB0
        refine He.wpE_one (i := 12) (by kernel_rfl) rfl (by rfl) (fun K hK => ?_)
        go_simp
        refine (AC.out _ _ htv0).mono ?_
        rintro e z1 ⟨v1, rfl, hmz, hr1⟩
        have HZ1 := Lib.hid (HQ.out.mod hmz)
        have Sz1 : z1.cell? ⟨w.heap.size + 1, 0, none⟩ = some (.slice ra2 l1.length rc2) := HZ1.out.bl.cell 0
        have HR1 := Lib.hid hr1
        clear hr1 htv0
        refine hK.out _ _ (fun _ => Sz1) ?_
        clear hK K hmz
        try simp only [Act.put, List.setIfInBounds_toArray, List.set_cons_zero, List.set_cons_succ]
        refine He.wpE_one (i := 13) (by kernel_rfl) rfl (by rfl) (fun K hK => ?_)
        go_simp
        refine (RF.out _ _ _ HR1.out).mono ?_
        rintro e z2 ⟨v2, rfl, hmz, hr2⟩
        have HZ2 := Lib.hid (HZ1.out.mod hmz)
        have Sz2 : z2.cell? ⟨w.heap.size + 1, 0, none⟩ = some (.slice ra2 l1.length rc2) := HZ2.out.bl.cell 0
        have HR2 := Lib.hid hr2
        clear hr2
        refine hK.out _ _ (fun _ => Sz2) ?_
        clear hK K hmz
        try simp only [Act.put, List.setIfInBounds_toArray, List.set_cons_zero, List.set_cons_succ]
        refine He.wpE_one (i := 16) (by kernel_rfl) rfl (by rfl) (fun K hK => ?_)
        go_simp
        refine (SC.out _ _ _ _ _ HR2.out HZ2.out.rf).mono ?_
        rintro e z3 ⟨rfl, hmz⟩
        have HZ3 := Lib.hid (HZ2.out.mod hmz)
        have Sz3 : z3.cell? ⟨w.heap.size + 1, 0, none⟩ = some (.slice ra2 l1.length rc2) := HZ3.out.bl.cell 0
        refine hK.out _ _ (fun _ => Sz3) ?_
        clear hK K hmz
        try simp only [Act.put, List.setIfInBounds_toArray, List.set_cons_zero, List.set_cons_succ]
        refine He.wpE_take (i := 17) (v := ?_) rfl (by kernel_rfl) (by kernel_rfl) (by kernel_rfl) (by kernel_rfl) (by kernel_rfl) (fun _ _ _ h => h) (by rfl) ?_ (by assumption) ?_
        rotate_left
        · (intro w' hSw; (try dsimp only at hSw); go_simp; first | done | with_reducible rfl)
        try simp only [List.getElem_toArray, List.getElem_cons_succ, List.getElem_cons_zero, Act.put, List.setIfInBounds_toArray, List.set_cons_zero, List.set_cons_succ]
        refine He.wpE_take (i := 18) (v := ?_) rfl (by kernel_rfl) (by kernel_rfl) (by kernel_rfl) (by kernel_rfl) (by kernel_rfl) (fun _ _ _ h => h) (by rfl) ?_ (by assumption) ?_
        rotate_left
        · (intro w' hSw; (try dsimp only at hSw); go_simp; first | done | with_reducible rfl)
        try simp only [List.getElem_toArray, List.getElem_cons_succ, List.getElem_cons_zero, Act.put, List.setIfInBounds_toArray, List.set_cons_zero, List.set_cons_succ]
        refine He.wpE_take (i := 19) (v := ?_) rfl (by kernel_rfl) (by kernel_rfl) (by kernel_rfl) (by kernel_rfl) (by kernel_rfl) (fun _ _ _ h => h) (by rfl) ?_ (by assumption) ?_
        rotate_left
        · (intro w' hSw; (try dsimp only at hSw); go_simp; first | done | with_reducible rfl)
        try simp only [List.getElem_toArray, List.getElem_cons_succ, List.getElem_cons_zero, Act.put, List.setIfInBounds_toArray, List.set_cons_zero, List.set_cons_succ]
        refine He.wpE_take (i := 20) (v := ?_) rfl (by kernel_rfl) (by kernel_rfl) (by kernel_rfl) (by kernel_rfl) (by kernel_rfl) (fun _ _ _ h => h) (by rfl) ?_ (by assumption) ?_
        rotate_left
        · (intro w' hSw; (try dsimp only at hSw); go_simp; first | done | with_reducible rfl)
        try simp only [List.getElem_toArray, List.getElem_cons_succ, List.getElem_cons_zero, Act.put, List.setIfInBounds_toArray, List.set_cons_zero, List.set_cons_succ]
        refine He.wpE_take (i := 22) (v := ?_) rfl (by kernel_rfl) (by kernel_rfl) (by kernel_rfl) (by kernel_rfl) (by kernel_rfl) (fun _ _ _ h => h) (by rfl) ?_ (by assumption) ?_
        rotate_left
        · (intro w' hSw; (try dsimp only at hSw); go_simp; first | done | with_reducible rfl)
        try simp only [List.getElem_toArray, List.getElem_cons_succ, List.getElem_cons_zero, Act.put, List.setIfInBounds_toArray, List.set_cons_zero, List.set_cons_succ]
        obtain ⟨tv3, htv3⟩ := HZ3.out.tb
        refine He.wpE_one (i := 21) (by kernel_rfl) rfl (by rfl) (fun K hK => ?_)
        go_simp
        refine (TX.out _ _ htv3).mono ?_
        rintro e z4 ⟨rfl, hmz⟩
        have HZ4 := Lib.hid (HZ3.out.mod hmz)
        have Sz4 : z4.cell? ⟨w.heap.size + 1, 0, none⟩ = some (.slice ra2 l1.length rc2) := HZ4.out.bl.cell 0
        clear htv3
        refine hK.out _ _ (fun _ => Sz4) ?_
        clear hK K hmz
        try simp only [Act.put, List.setIfInBounds_toArray, List.set_cons_zero, List.set_cons_succ]
        refine He.wpE_one (i := 23) (by kernel_rfl) rfl (by rfl) (fun K hK => ?_)
        go_simp
        refine (RX.out _ _ _ HZ4.out.rf).mono ?_
        rintro e z5 ⟨rfl, hmz⟩
        have HZ5 := Lib.hid (HZ4.out.mod hmz)
        have Sz5 : z5.cell? ⟨w.heap.size + 1, 0, none⟩ = some (.slice ra2 l1.length rc2) := HZ5.out.bl.cell 0
        refine hK.out _ _ (fun _ => Sz5) ?_
        clear hK K hmz
        try simp only [Act.put, List.setIfInBounds_toArray, List.set_cons_zero, List.set_cons_succ]
        refine He.wpE_take (i := 24) (v := ?_) rfl (by kernel_rfl) (by kernel_rfl) (by kernel_rfl) (by kernel_rfl) (by kernel_rfl) (fun _ _ _ h => h) (by rfl) ?_ (by assumption) ?_
        rotate_left
        · (intro w' hSw; (try dsimp only at hSw); go_simp; first | done | with_reducible rfl)
        try simp only [List.getElem_toArray, List.getElem_cons_succ, List.getElem_cons_zero, Act.put, List.setIfInBounds_toArray, List.set_cons_zero, List.set_cons_succ]
        refine He.wpE_take (i := 25) (v := ?_) rfl (by kernel_rfl) (by kernel_rfl) (by kernel_rfl) (by kernel_rfl) (by kernel_rfl) (fun _ _ _ h => h) (by rfl) ?_ (by assumption) ?_
        rotate_left
        · (intro w' hSw; (try dsimp only at hSw); go_simp; first | done | with_reducible rfl)
        try simp only [List.getElem_toArray, List.getElem_cons_succ, List.getElem_cons_zero, Act.put, List.setIfInBounds_toArray, List.set_cons_zero, List.set_cons_succ]
        refine He.wpE_done (by kernel_rfl) ?_
        try simp only [Act.put, List.setIfInBounds_toArray, List.set_cons_zero, List.set_cons_succ]
        go_wp2_with fail
        go_roundw
        case rel => exact ⟨i + 1, t, l1, _, by omega, by omega, rfl, by go_num, HG1.out, HZ5.out⟩
        case measure => simp [intOf]; omega
      have q2 : (xk == 2) = false := by simpa using k2
      by_cases k3 : xk = 3
      · subst k3
        have TXC := Lib.hid (fun v w h => text_calls t v l w h (by omega) HG.out.sb)
        have RDC : Hid (∀ w, Calls Try.prog 30 #[.string (txt l)] w fun e w' => ∃ t v, e = .returned (.tuple #[.pointer (some ⟨t, 0, none⟩), .int .i64 0]) ∧ Mod w w' [] ∧ w.heap.size ≤ t ∧ TabAt w' t v l) := Lib.hid (fun w => (read_calls (txt l) (txt_size HG.out) w).mono fun e w' h => by unfold ReadP at h; rw [read_back HG.out] at h; exact h)
        have HG1 := HG
        clear HG
        go_wp2_with fail
        generalize wr.alloc _ = W at HPW HX ⊢
        obtain ⟨tv, htv⟩ := HPW.out.tb
        (with_reducible refine (TXC.out _ _ htv).mono ?_)
        rintro e w3 ⟨rfl, hm3⟩
        have HP3 := Lib.hid (HPW.out.mod hm3)
        clear hm3 htv HPW HX
        go_wp2_with fail
        (with_reducible refine (RDC.out _).mono ?_)
        rintro e w4 ⟨t2, tv2, rfl, hm4, ht4, hta4⟩
        have HQ := Lib.hid (HP3.out.new hm4 ht4 hta4)
        clear hm4 ht4 hta4 HP3
        go_wp2_with fail
        have hl1 := HG1.out.len
        have AC := Lib.hid (fun v w h => all_calls t2 v l w h (by omega))
        have RF := Lib.hid (fun base v w h => refs_calls base v l w h (by omega))
        have SC := Lib.hid (fun b1 b2 v1 v2 w h1 h2 => same_calls b1 b2 v1 v2 l l w h1 h2 (by omega) (by omega))
        have TX := Lib.hid (fun v w h => text_calls t2 v l w h (by omega) HG1.out.sb)
        have RX := Lib.hid (fun b v w h => rtext_calls b v l w h (by omega) HG1.out.sb)
        rw [decide_eq_true (rfl : l = l)] at SC
        have hq : ((txt l).toList == (txt l).toList) = true := by simp
        generalize txt l = T at TX RX hq
        have c0 := HQ.out.bl.cell 0
        refine He.wp_region_e 25 (fun w' => w'.cell? ⟨w.heap.size + 1, 0, none⟩ = some (.slice ra l.length rc)) (by kernel_rfl) (keepC (Mod.refl _ _).drew c0) (fun S0 => ?_)
        have HQ := Lib.hid (HQ.out.mod (Mod.refl _ _).drew)
        clear c0
        refine He.wpE_take (i := 0) (v := ?_) rfl (by kernel_rfl) (by kernel_rfl) (by kernel_rfl) (by kernel_rfl) (by kernel_rfl) (fun _ _ _ h => h) (by rfl) ?_ (by assumption) ?_
        rotate_left
        · (intro w' hSw; (try dsimp only at hSw); go_simp; first | done | with_reducible rfl)
        try simp only [List.getElem_toArray, List.getElem_cons_succ, List.getElem_cons_zero, Act.put, List.setIfInBounds_toArray, List.set_cons_zero, List.set_cons_succ]
        refine He.wpE_take (i := 1) (v := ?_) rfl (by kernel_rfl) (by kernel_rfl) (by kernel_rfl) (by kernel_rfl) (by kernel_rfl) (fun _ _ _ h => h) (by rfl) ?_ (by assumption) ?_
        rotate_left
        · (intro w' hSw; (try dsimp only at hSw); go_simp; first | done | with_reducible rfl)
        try simp only [List.getElem_toArray, List.getElem_cons_succ, List.getElem_cons_zero, Act.put, List.setIfInBounds_toArray, List.set_cons_zero, List.set_cons_succ]
        refine He.wpE_take (i := 2) (v := ?_) rfl (by kernel_rfl) (by kernel_rfl) (by kernel_rfl) (by kernel_rfl) (by kernel_rfl) (fun _ _ _ h => h) (by rfl) ?_ (by assumption) ?_
        rotate_left
        · (intro w' hSw; (try dsimp only at hSw); go_simp; first | done | with_reducible rfl)
        try simp only [List.getElem_toArray, List.getElem_cons_succ, List.getElem_cons_zero, Act.put, List.setIfInBounds_toArray, List.set_cons_zero, List.set_cons_succ]
        refine He.wpE_take (i := 3) (v := ?_) rfl (by kernel_rfl) (by kernel_rfl) (by kernel_rfl) (by kernel_rfl) (by kernel_rfl) (fun _ _ _ h => h) (by rfl) ?_ (by assumption) ?_
        rotate_left
        · (intro w' hSw; (try dsimp only at hSw); go_simp; first | done | with_reducible rfl)
        try simp only [List.getElem_toArray, List.getElem_cons_succ, List.getElem_cons_zero, Act.put, List.setIfInBounds_toArray, List.set_cons_zero, List.set_cons_succ]
        refine He.wpE_take (i := 4) (v := ?_) rfl (by kernel_rfl) (by kernel_rfl) (by kernel_rfl) (by kernel_rfl) (by kernel_rfl) (fun _ _ _ h => h) (by rfl) ?_ (by assumption) ?_
        rotate_left
        · (intro w' hSw; (try dsimp only at hSw); go_simp; first | done | with_reducible rfl)
        try simp only [List.getElem_toArray, List.getElem_cons_succ, List.getElem_cons_zero, Act.put, List.setIfInBounds_toArray, List.set_cons_zero, List.set_cons_succ]
        refine He.wpE_take (i := 5) (v := ?_) rfl (by kernel_rfl) (by kernel_rfl) (by kernel_rfl) (by kernel_rfl) (by kernel_rfl) (fun _ _ _ h => h) (by rfl) ?_ (by assumption) ?_
        rotate_left
        · (intro w' hSw; (try dsimp only at hSw); go_simp; first | done | with_reducible rfl)
        try simp only [List.getElem_toArray, List.getElem_cons_succ, List.getElem_cons_zero, Act.put, List.setIfInBounds_toArray, List.set_cons_zero, List.set_cons_succ]
        refine He.wpE_take (i := 6) (v := ?_) rfl (by kernel_rfl) (by kernel_rfl) (by kernel_rfl) (by kernel_rfl) (by kernel_rfl) (fun _ _ _ h => h) (by rfl) ?_ (by assumption) ?_
        rotate_left
        · (intro w' hSw; (try dsimp only at hSw); go_simp; first | done | with_reducible rfl)
        try simp only [List.getElem_toArray, List.getElem_cons_succ, List.getElem_cons_zero, Act.put, List.setIfInBounds_toArray, List.set_cons_zero, List.set_cons_succ]
        refine He.wpE_take (i := 7) (v := ?_) rfl (by kernel_rfl) (by kernel_rfl) (by kernel_rfl) (by kernel_rfl) (by kernel_rfl) (fun _ _ _ h => h) (by rfl) ?_ (by assumption) ?_
        rotate_left
        · (intro w' hSw; (try dsimp only at hSw); go_simp; first | done | with_reducible rfl)
        try simp only [List.getElem_toArray, List.getElem_cons_succ, List.getElem_cons_zero, Act.put, List.setIfInBounds_toArray, List.set_cons_zero, List.set_cons_succ]
        refine He.wpE_take (i := 8) (v := ?_) rfl (by kernel_rfl) (by kernel_rfl) (by kernel_rfl) (by kernel_rfl) (by kernel_rfl) (fun _ _ _ h => h) (by rfl) ?_ (by assumption) ?_
        rotate_left
        · (intro w' hSw; (try dsimp only at hSw); go_simp; first | done | with_reducible rfl)
        try simp only [List.getElem_toArray, List.getElem_cons_succ, List.getElem_cons_zero, Act.put, List.setIfInBounds_toArray, List.set_cons_zero, List.set_cons_succ]
        refine He.wpE_take (i := 9) (v := ?_) rfl (by kernel_rfl) (by kernel_rfl) (by kernel_rfl) (by kernel_rfl) (by kernel_rfl) (fun _ _ _ h => h) (by rfl) ?_ (by assumption) ?_
        rotate_left
        · (intro w' hSw; (try dsimp only at hSw); go_simp; first | done | with_reducible rfl)
        try simp only [List.getElem_toArray, List.getElem_cons_succ, List.getElem_cons_zero, Act.put, List.setIfInBounds_toArray, List.set_cons_zero, List.set_cons_succ]
        refine He.wpE_take (i := 10) (v := ?_) rfl (by kernel_rfl) (by kernel_rfl) (by kernel_rfl) (by kernel_rfl) (by kernel_rfl) (fun _ _ _ h => h) (by rfl) ?_ (by assumption) ?_
        rotate_left
        · (intro w' hSw; (try dsimp only at hSw); go_simp; first | done | with_reducible rfl)
        try simp only [List.getElem_toArray, List.getElem_cons_succ, List.getElem_cons_zero, Act.put, List.setIfInBounds_toArray, List.set_cons_zero, List.set_cons_succ]
        refine He.wpE_take (i := 11) (v := ?_) rfl (by kernel_rfl) (by kernel_rfl) (by kernel_rfl) (by kernel_rfl) (by kernel_rfl) (fun _ _ _ h => h) (by rfl) ?_ (by assumption) ?_
        rotate_left
        · (intro w' hSw; (try dsimp only at hSw); go_simp; first | done | with_reducible rfl)
        try simp only [List.getElem_toArray, List.getElem_cons_succ, List.getElem_cons_zero, Act.put, List.setIfInBounds_toArray, List.set_cons_zero, List.set_cons_succ]
        refine He.wpE_take (i := 14) (v := ?_) rfl (by kernel_rfl) (by kernel_rfl) (by kernel_rfl) (by kernel_rfl) (by kernel_rfl) (fun _ _ _ h => h) (by rfl) ?_ (by assumption) ?_
        rotate_left
        · (intro w' hSw; (try dsimp only at hSw); go_simp; first | done | with_reducible rfl)
        try simp only [List.getElem_toArray, List.getElem_cons_succ, List.getElem_cons_zero, Act.put, List.setIfInBounds_toArray, List.set_cons_zero, List.set_cons_succ]
        refine He.wpE_take (i := 15) (v := ?_) rfl (by kernel_rfl) (by kernel_rfl) (by kernel_rfl) (by kernel_rfl) (by kernel_rfl) (fun _ _ _ h => h) (by rfl) ?_ (by assumption) ?_
        rotate_left
        · (intro w' hSw; (try dsimp only at hSw); go_simp; first | done | with_reducible rfl)
        try simp only [List.getElem_toArray, List.getElem_cons_succ, List.getElem_cons_zero, Act.put, List.setIfInBounds_toArray, List.set_cons_zero, List.set_cons_succ]
        have TB0 := Lib.hid HQ.out.tb
        obtain ⟨tv0, htv0⟩ := TB0.out
        clear TB0
        refine He.wpE_one (i := 12) (by kernel_rfl) rfl (by rfl) (fun K hK => ?_)
        go_simp
        refine (AC.out _ _ htv0).mono ?_
        rintro e z1 ⟨v1, rfl, hmz, hr1⟩
        have HZ1 := Lib.hid (HQ.out.mod hmz)
        have Sz1 : z1.cell? ⟨w.heap.size + 1, 0, none⟩ = some (.slice ra l.length rc) := HZ1.out.bl.cell 0
        have HR1 := Lib.hid hr1
        clear hr1 htv0
        refine hK.out _ _ (fun _ => Sz1) ?_
        clear hK K hmz
        try simp only [Act.put, List.setIfInBounds_toArray, List.set_cons_zero, List.set_cons_succ]
        refine He.wpE_one (i := 13) (by kernel_rfl) rfl (by rfl) (fun K hK => ?_)
        go_simp
        refine (RF.out _ _ _ HR1.out).mono ?_
        rintro e z2 ⟨v2, rfl, hmz, hr2⟩
        have HZ2 := Lib.hid (HZ1.out.mod hmz)
        have Sz2 : z2.cell? ⟨w.heap.size + 1, 0, none⟩ = some (.slice ra l.length rc) := HZ2.out.bl.cell 0
        have HR2 := Lib.hid hr2
        clear hr2
        refine hK.out _ _ (fun _ => Sz2) ?_
        clear hK K hmz
        try simp only [Act.put, List.setIfInBounds_toArray, List.set_cons_zero, List.set_cons_succ]
        refine He.wpE_one (i := 16) (by kernel_rfl) rfl (by rfl) (fun K hK => ?_)
        go_simp
        refine (SC.out _ _ _ _ _ HR2.out HZ2.out.rf).mono ?_
        rintro e z3 ⟨rfl, hmz⟩
        have HZ3 := Lib.hid (HZ2.out.mod hmz)
        have Sz3 : z3.cell? ⟨w.heap.size + 1, 0, none⟩ = some (.slice ra l.length rc) := HZ3.out.bl.cell 0
        refine hK.out _ _ (fun _ => Sz3) ?_
        clear hK K hmz
        try simp only [Act.put, List.setIfInBounds_toArray, List.set_cons_zero, List.set_cons_succ]
        refine He.wpE_take (i := 17) (v := ?_) rfl (by kernel_rfl) (by kernel_rfl) (by kernel_rfl) (by kernel_rfl) (by kernel_rfl) (fun _ _ _ h => h) (by rfl) ?_ (by assumption) ?_
        rotate_left
        · (intro w' hSw; (try dsimp only at hSw); go_simp; first | done | with_reducible rfl)
        try simp only [List.getElem_toArray, List.getElem_cons_succ, List.getElem_cons_zero, Act.put, List.setIfInBounds_toArray, List.set_cons_zero, List.set_cons_succ]
        refine He.wpE_take (i := 18) (v := ?_) rfl (by kernel_rfl) (by kernel_rfl) (by kernel_rfl) (by kernel_rfl) (by kernel_rfl) (fun _ _ _ h => h) (by rfl) ?_ (by assumption) ?_
        rotate_left
        · (intro w' hSw; (try dsimp only at hSw); go_simp; first | done | with_reducible rfl)
        try simp only [List.getElem_toArray, List.getElem_cons_succ, List.getElem_cons_zero, Act.put, List.setIfInBounds_toArray, List.set_cons_zero, List.set_cons_succ]
        refine He.wpE_take (i := 19) (v := ?_) rfl (by kernel_rfl) (by kernel_rfl) (by kernel_rfl) (by kernel_rfl) (by kernel_rfl) (fun _ _ _ h => h) (by rfl) ?_ (by assumption) ?_
        rotate_left
        · (intro w' hSw; (try dsimp only at hSw); go_simp; first | done | with_reducible rfl)
        try simp only [List.getElem_toArray, List.getElem_cons_succ, List.getElem_cons_zero, Act.put, List.setIfInBounds_toArray, List.set_cons_zero, List.set_cons_succ]
        refine He.wpE_take (i := 20) (v := ?_) rfl (by kernel_rfl) (by kernel_rfl) (by kernel_rfl) (by kernel_rfl) (by kernel_rfl) (fun _ _ _ h => h) (by rfl) ?_ (by assumption) ?_
        rotate_left
        · (intro w' hSw; (try dsimp only at hSw); go_simp; first | done | with_reducible rfl)
        try simp only [List.getElem_toArray, List.getElem_cons_succ, List.getElem_cons_zero, Act.put, List.setIfInBounds_toArray, List.set_cons_zero, List.set_cons_succ]
        refine He.wpE_take (i := 22) (v := ?_) rfl (by kernel_rfl) (by kernel_rfl) (by kernel_rfl) (by kernel_rfl) (by kernel_rfl) (fun _ _ _ h => h) (by rfl) ?_ (by assumption) ?_
        rotate_left
        · (intro w' hSw; (try dsimp only at hSw); go_simp; first | done | with_reducible rfl)
        try simp only [List.getElem_toArray, List.getElem_cons_succ, List.getElem_cons_zero, Act.put, List.setIfInBounds_toArray, List.set_cons_zero, List.set_cons_succ]
        obtain ⟨tv3, htv3⟩ := HZ3.out.tb
        refine He.wpE_one (i := 21) (by kernel_rfl) rfl (by rfl) (fun K hK => ?_)
        go_simp
        refine (TX.out _ _ htv3).mono ?_
        rintro e z4 ⟨rfl, hmz⟩
        have HZ4 := Lib.hid (HZ3.out.mod hmz)
        have Sz4 : z4.cell? ⟨w.heap.size + 1, 0, none⟩ = some (.slice ra l.length rc) := HZ4.out.bl.cell 0
        clear htv3
        refine hK.out _ _ (fun _ => Sz4) ?_
        clear hK K hmz
        try simp only [Act.put, List.setIfInBounds_toArray, List.set_cons_zero, List.set_cons_succ]
        refine He.wpE_one (i := 23) (by kernel_rfl) rfl (by rfl) (fun K hK => ?_)
        go_simp
        refine (RX.out _ _ _ HZ4.out.rf).mono ?_
        rintro e z5 ⟨rfl, hmz⟩
        have HZ5 := Lib.hid (HZ4.out.mod hmz)
        have Sz5 : z5.cell? ⟨w.heap.size + 1, 0, none⟩ = some (.slice ra l.length rc) := HZ5.out.bl.cell 0
        refine hK.out _ _ (fun _ => Sz5) ?_
        clear hK K hmz
        try simp only [Act.put, List.setIfInBounds_toArray, List.set_cons_zero, List.set_cons_succ]
        refine He.wpE_take (i := 24) (v := ?_) rfl (by kernel_rfl) (by kernel_rfl) (by kernel_rfl) (by kernel_rfl) (by kernel_rfl) (fun _ _ _ h => h) (by rfl) ?_ (by assumption) ?_
        rotate_left
        · (intro w' hSw; (try dsimp only at hSw); go_simp; first | done | with_reducible rfl)
        try simp only [List.getElem_toArray, List.getElem_cons_succ, List.getElem_cons_zero, Act.put, List.setIfInBounds_toArray, List.set_cons_zero, List.set_cons_succ]
        refine He.wpE_take (i := 25) (v := ?_) rfl (by kernel_rfl) (by kernel_rfl) (by kernel_rfl) (by kernel_rfl) (by kernel_rfl) (fun _ _ _ h => h) (by rfl) ?_ (by assumption) ?_
        rotate_left
        · (intro w' hSw; (try dsimp only at hSw); go_simp; first | done | with_reducible rfl)
        try simp only [List.getElem_toArray, List.getElem_cons_succ, List.getElem_cons_zero, Act.put, List.setIfInBounds_toArray, List.set_cons_zero, List.set_cons_succ]
        refine He.wpE_done (by kernel_rfl) ?_
        try simp only [Act.put, List.setIfInBounds_toArray, List.set_cons_zero, List.set_cons_succ]
        go_wp2_with fail
        go_roundw
        case rel => exact ⟨i + 1, t2, l, _, by omega, by omega, rfl, by go_num, HG1.out, HZ5.out⟩
        case measure => simp [intOf]; omega
      have q3 : (xk == 3) = false := by simpa using k3
      have HG1 := HG
      have HQ := HPW
      clear HG HPW HX
      go_wp2_with fail
      generalize wr.alloc _ = W at HQ ⊢
      have hl1 := HG1.out.len
      have AC := Lib.hid (fun v w h => all_calls t v l w h (by omega))
      have RF := Lib.hid (fun base v w h => refs_calls base v l w h (by omega))
      have SC := Lib.hid (fun b1 b2 v1 v2 w h1 h2 => same_calls b1 b2 v1 v2 l l w h1 h2 (by omega) (by omega))
      have TX := Lib.hid (fun v w h => text_calls t v l w h (by omega) HG1.out.sb)
      have RX := Lib.hid (fun b v w h => rtext_calls b v l w h (by omega) HG1.out.sb)
      rw [decide_eq_true (rfl : l = l)] at SC
      have hq : ((txt l).toList == (txt l).toList) = true := by simp
      generalize txt l = T at TX RX hq
      have c0 := HQ.out.bl.cell 0
      refine He.wp_region_e 25 (fun w' => w'.cell? ⟨w.heap.size + 1, 0, none⟩ = some (.slice ra l.length rc)) (by kernel_rfl) (keepC (Mod.refl _ _).drew c0) (fun S0 => ?_)
      have HQ := Lib.hid (HQ.out.mod (Mod.refl _ _).drew)
      clear c0
      refine He.wpE_take (i := 0) (v := ?_) rfl (by kernel_rfl) (by kernel_rfl) (by kernel_rfl) (by kernel_rfl) (by kernel_rfl) (fun _ _ _ h => h) (by rfl) ?_ (by assumption) ?_
      rotate_left
      · (intro w' hSw; (try dsimp only at hSw); go_simp; first | done | with_reducible rfl)
      try simp only [List.getElem_toArray, List.getElem_cons_succ, List.getElem_cons_zero, Act.put, List.setIfInBounds_toArray, List.set_cons_zero, List.set_cons_succ]
      refine He.wpE_take (i := 1) (v := ?_) rfl (by kernel_rfl) (by kernel_rfl) (by kernel_rfl) (by kernel_rfl) (by kernel_rfl) (fun _ _ _ h => h) (by rfl) ?_ (by assumption) ?_
      rotate_left
      · (intro w' hSw; (try dsimp only at hSw); go_simp; first | done | with_reducible rfl)
      try simp only [List.getElem_toArray, List.getElem_cons_succ, List.getElem_cons_zero, Act.put, List.setIfInBounds_toArray, List.set_cons_zero, List.set_cons_succ]
      refine He.wpE_take (i := 2) (v := ?_) rfl (by kernel_rfl) (by kernel_rfl) (by kernel_rfl) (by kernel_rfl) (by kernel_rfl) (fun _ _ _ h => h) (by rfl) ?_ (by assumption) ?_
      rotate_left
      · (intro w' hSw; (try dsimp only at hSw); go_simp; first | done | with_reducible rfl)
      try simp only [List.getElem_toArray, List.getElem_cons_succ, List.getElem_cons_zero, Act.put, List.setIfInBounds_toArray, List.set_cons_zero, List.set_cons_succ]
      refine He.wpE_take (i := 3) (v := ?_) rfl (by kernel_rfl) (by kernel_rfl) (by kernel_rfl) (by kernel_rfl) (by kernel_rfl) (fun _ _ _ h => h) (by rfl) ?_ (by assumption) ?_
      rotate_left
      · (intro w' hSw; (try dsimp only at hSw); go_simp; first | done | with_reducible rfl)
      try simp only [List.getElem_toArray, List.getElem_cons_succ, List.getElem_cons_zero, Act.put, List.setIfInBounds_toArray, List.set_cons_zero, List.set_cons_succ]
      refine He.wpE_take (i := 4) (v := ?_) rfl (by kernel_rfl) (by kernel_rfl) (by kernel_rfl) (by kernel_rfl) (by kernel_rfl) (fun _ _ _ h => h) (by rfl) ?_ (by assumption) ?_
      rotate_left
      · (intro w' hSw; (try dsimp only at hSw); go_simp; first | done | with_reducible rfl)
      try simp only [List.getElem_toArray, List.getElem_cons_succ, List.getElem_cons_zero, Act.put, List.setIfInBounds_toArray, List.set_cons_zero, List.set_cons_succ]
      refine He.wpE_take (i := 5) (v := ?_) rfl (by kernel_rfl) (by kernel_rfl) (by kernel_rfl) (by kernel_rfl) (by kernel_rfl) (fun _ _ _ h => h) (by rfl) ?_ (by assumption) ?_
      rotate_left
      · (intro w' hSw; (try dsimp only at hSw); go_simp; first | done | with_reducible rfl)
      try simp only [List.getElem_toArray, List.getElem_cons_succ, List.getElem_cons_zero, Act.put, List.setIfInBounds_toArray, List.set_cons_zero, List.set_cons_succ]
      refine He.wpE_take (i := 6) (v := ?_) rfl (by kernel_rfl) (by kernel_rfl) (by kernel_rfl) (by kernel_rfl) (by kernel_rfl) (fun _ _ _ h => h) (by rfl) ?_ (by assumption) ?_
      rotate_left
      · (intro w' hSw; (try dsimp only at hSw); go_simp; first | done | with_reducible rfl)
      try simp only [List.getElem_toArray, List.getElem_cons_succ, List.getElem_cons_zero, Act.put, List.setIfInBounds_toArray, List.set_cons_zero, List.set_cons_succ]
      refine He.wpE_take (i := 7) (v := ?_) rfl (by kernel_rfl) (by kernel_rfl) (by kernel_rfl) (by kernel_rfl) (by kernel_rfl) (fun _ _ _ h => h) (by rfl) ?_ (by assumption) ?_
      rotate_left
      · (intro w' hSw; (try dsimp only at hSw); go_simp; first | done | with_reducible rfl)
      try simp only [List.getElem_toArray, List.getElem_cons_succ, List.getElem_cons_zero, Act.put, List.setIfInBounds_toArray, List.set_cons_zero, List.set_cons_succ]
      refine He.wpE_take (i := 8) (v := ?_) rfl (by kernel_rfl) (by kernel_rfl) (by kernel_rfl) (by kernel_rfl) (by kernel_rfl) (fun _ _ _ h => h) (by rfl) ?_ (by assumption) ?_
      rotate_left
      · (intro w' hSw; (try dsimp only at hSw); go_simp; first | done | with_reducible rfl)
      try simp only [List.getElem_toArray, List.getElem_cons_succ, List.getElem_cons_zero, Act.put, List.setIfInBounds_toArray, List.set_cons_zero, List.set_cons_succ]
      refine He.wpE_take (i := 9) (v := ?_) rfl (by kernel_rfl) (by kernel_rfl) (by kernel_rfl) (by kernel_rfl) (by kernel_rfl) (fun _ _ _ h => h) (by rfl) ?_ (by assumption) ?_
      rotate_left
      · (intro w' hSw; (try dsimp only at hSw); go_simp; first | done | with_reducible rfl)
      try simp only [List.getElem_toArray, List.getElem_cons_succ, List.getElem_cons_zero, Act.put, List.setIfInBounds_toArray, List.set_cons_zero, List.set_cons_succ]
      refine He.wpE_take (i := 10) (v := ?_) rfl (by kernel_rfl) (by kernel_rfl) (by kernel_rfl) (by kernel_rfl) (by kernel_rfl) (fun _ _ _ h => h) (by rfl) ?_ (by assumption) ?_
      rotate_left
      · (intro w' hSw; (try dsimp only at hSw); go_simp; first | done | with_reducible rfl)
      try simp only [List.getElem_toArray, List.getElem_cons_succ, List.getElem_cons_zero, Act.put, List.setIfInBounds_toArray, List.set_cons_zero, List.set_cons_succ]
      refine He.wpE_take (i := 11) (v := ?_) rfl (by kernel_rfl) (by kernel_rfl) (by kernel_rfl) (by kernel_rfl) (by kernel_rfl) (fun _ _ _ h => h) (by rfl) ?_ (by assumption) ?_
      rotate_left
      · (intro w' hSw; (try dsimp only at hSw); go_simp; first | done | with_reducible rfl)
      try simp only [List.getElem_toArray, List.getElem_cons_succ, List.getElem_cons_zero, Act.put, List.setIfInBounds_toArray, List.set_cons_zero, List.set_cons_succ]
      refine He.wpE_take (i := 14) (v := ?_) rfl (by kernel_rfl) (by kernel_rfl) (by kernel_rfl) (by kernel_rfl) (by kernel_rfl) (fun _ _ _ h => h) (by rfl) ?_ (by assumption) ?_
      rotate_left
      · (intro w' hSw; (try dsimp only at hSw); go_simp; first | done | with_reducible rfl)
      try simp only [List.getElem_toArray, List.getElem_cons_succ, List.getElem_cons_zero, Act.put, List.setIfInBounds_toArray, List.set_cons_zero, List.set_cons_succ]
      refine He.wpE_take (i := 15) (v := ?_) rfl (by kernel_rfl) (by kernel_rfl) (by kernel_rfl) (by kernel_rfl) (by kernel_rfl) (fun _ _ _ h => h) (by rfl) ?_ (by assumption) ?_
      rotate_left
      · (intro w' hSw; (try dsimp only at hSw); go_simp; first | done | with_reducible rfl)
      try simp only [List.getElem_toArray, List.getElem_cons_succ, List.getElem_cons_zero, Act.put, List.setIfInBounds_toArray, List.set_cons_zero, List.set_cons_succ]
      have TB0 := Lib.hid HQ.out.tb
      obtain ⟨tv0, htv0⟩ := TB0.out
      clear TB0
      refine He.wpE_one (i := 12) (by kernel_rfl) rfl (by rfl) (fun K hK => ?_)
      go_simp
      refine (AC.out _ _ htv0).mono ?_
      rintro e z1 ⟨v1, rfl, hmz, hr1⟩
      have HZ1 := Lib.hid (HQ.out.mod hmz)
      have Sz1 : z1.cell? ⟨w.heap.size + 1, 0, none⟩ = some (.slice ra l.length rc) := HZ1.out.bl.cell 0
      have HR1 := Lib.hid hr1
      clear hr1 htv0
      refine hK.out _ _ (fun _ => Sz1) ?_
      clear hK K hmz
      try simp only [Act.put, List.setIfInBounds_toArray, List.set_cons_zero, List.set_cons_succ]
      refine He.wpE_one (i := 13) (by kernel_rfl) rfl (by rfl) (fun K hK => ?_)
      go_simp
      refine (RF.out _ _ _ HR1.out).mono ?_
      rintro e z2 ⟨v2, rfl, hmz, hr2⟩
      have HZ2 := Lib.hid (HZ1.out.mod hmz)
      have Sz2 : z2.cell? ⟨w.heap.size + 1, 0, none⟩ = some (.slice ra l.length rc) := HZ2.out.bl.cell 0
      have HR2 := Lib.hid hr2
      clear hr2
      refine hK.out _ _ (fun _ => Sz2) ?_
      clear hK K hmz
      try simp only [Act.put, List.setIfInBounds_toArray, List.set_cons_zero, List.set_cons_succ]
      refine He.wpE_one (i := 16) (by kernel_rfl) rfl (by rfl) (fun K hK => ?_)
      go_simp
      refine (SC.out _ _ _ _ _ HR2.out HZ2.out.rf).mono ?_
      rintro e z3 ⟨rfl, hmz⟩
      have HZ3 := Lib.hid (HZ2.out.mod hmz)
      have Sz3 : z3.cell? ⟨w.heap.size + 1, 0, none⟩ = some (.slice ra l.length rc) := HZ3.out.bl.cell 0
      refine hK.out _ _ (fun _ => Sz3) ?_
      clear hK K hmz
      try simp only [Act.put, List.setIfInBounds_toArray, List.set_cons_zero, List.set_cons_succ]
      refine He.wpE_take (i := 17) (v := ?_) rfl (by kernel_rfl) (by kernel_rfl) (by kernel_rfl) (by kernel_rfl) (by kernel_rfl) (fun _ _ _ h => h) (by rfl) ?_ (by assumption) ?_
      rotate_left
      · (intro w' hSw; (try dsimp only at hSw); go_simp; first | done | with_reducible rfl)
      try simp only [List.getElem_toArray, List.getElem_cons_succ, List.getElem_cons_zero, Act.put, List.setIfInBounds_toArray, List.set_cons_zero, List.set_cons_succ]
      refine He.wpE_take (i := 18) (v := ?_) rfl (by kernel_rfl) (by kernel_rfl) (by kernel_rfl) (by kernel_rfl) (by kernel_rfl) (fun _ _ _ h => h) (by rfl) ?_ (by assumption) ?_
      rotate_left
      · (intro w' hSw; (try dsimp only at hSw); go_simp; first | done | with_reducible rfl)
      try simp only [List.getElem_toArray, List.getElem_cons_succ, List.getElem_cons_zero, Act.put, List.setIfInBounds_toArray, List.set_cons_zero, List.set_cons_succ]
      refine He.wpE_take (i := 19) (v := ?_) rfl (by kernel_rfl) (by kernel_rfl) (by kernel_rfl) (by kernel_rfl) (by kernel_rfl) (fun _ _ _ h => h) (by rfl) ?_ (by assumption) ?_
      rotate_left
      · (intro w' hSw; (try dsimp only at hSw); go_simp; first | done | with_reducible rfl)
      try simp only [List.getElem_toArray, List.getElem_cons_succ, List.getElem_cons_zero, Act.put, List.setIfInBounds_toArray, List.set_cons_zero, List.set_cons_succ]
      refine He.wpE_take (i := 20) (v := ?_) rfl (by kernel_rfl) (by kernel_rfl) (by kernel_rfl) (by kernel_rfl) (by kernel_rfl) (fun _ _ _ h => h) (by rfl) ?_ (by assumption) ?_
      rotate_left
      · (intro w' hSw; (try dsimp only at hSw); go_simp; first | done | with_reducible rfl)
      try simp only [List.getElem_toArray, List.getElem_cons_succ, List.getElem_cons_zero, Act.put, List.setIfInBounds_toArray, List.set_cons_zero, List.set_cons_succ]
      refine He.wpE_take (i := 22) (v := ?_) rfl (by kernel_rfl) (by kernel_rfl) (by kernel_rfl) (by kernel_rfl) (by kernel_rfl) (fun _ _ _ h => h) (by rfl) ?_ (by assumption) ?_
      rotate_left
      · (intro w' hSw; (try dsimp only at hSw); go_simp; first | done | with_reducible rfl)
      try simp only [List.getElem_toArray, List.getElem_cons_succ, List.getElem_cons_zero, Act.put, List.setIfInBounds_toArray, List.set_cons_zero, List.set_cons_succ]
      obtain ⟨tv3, htv3⟩ := HZ3.out.tb
      refine He.wpE_one (i := 21) (by kernel_rfl) rfl (by rfl) (fun K hK => ?_)
      go_simp
      refine (TX.out _ _ htv3).mono ?_
      rintro e z4 ⟨rfl, hmz⟩
      have HZ4 := Lib.hid (HZ3.out.mod hmz)
      have Sz4 : z4.cell? ⟨w.heap.size + 1, 0, none⟩ = some (.slice ra l.length rc) := HZ4.out.bl.cell 0
      clear htv3
      refine hK.out _ _ (fun _ => Sz4) ?_
      clear hK K hmz
      try simp only [Act.put, List.setIfInBounds_toArray, List.set_cons_zero, List.set_cons_succ]
      refine He.wpE_one (i := 23) (by kernel_rfl) rfl (by rfl) (fun K hK => ?_)
      go_simp
      refine (RX.out _ _ _ HZ4.out.rf).mono ?_
      rintro e z5 ⟨rfl, hmz⟩
      have HZ5 := Lib.hid (HZ4.out.mod hmz)
      have Sz5 : z5.cell? ⟨w.heap.size + 1, 0, none⟩ = some (.slice ra l.length rc) := HZ5.out.bl.cell 0
      refine hK.out _ _ (fun _ => Sz5) ?_
      clear hK K hmz
      try simp only [Act.put, List.setIfInBounds_toArray, List.set_cons_zero, List.set_cons_succ]
      refine He.wpE_take (i := 24) (v := ?_) rfl (by kernel_rfl) (by kernel_rfl) (by kernel_rfl) (by kernel_rfl) (by kernel_rfl) (fun _ _ _ h => h) (by rfl) ?_ (by assumption) ?_
      rotate_left
      · (intro w' hSw; (try dsimp only at hSw); go_simp; first | done | with_reducible rfl)
      try simp only [List.getElem_toArray, List.getElem_cons_succ, List.getElem_cons_zero, Act.put, List.setIfInBounds_toArray, List.set_cons_zero, List.set_cons_succ]
      refine He.wpE_take (i := 25) (v := ?_) rfl (by kernel_rfl) (by kernel_rfl) (by kernel_rfl) (by kernel_rfl) (by kernel_rfl) (fun _ _ _ h => h) (by rfl) ?_ (by assumption) ?_
      rotate_left
      · (intro w' hSw; (try dsimp only at hSw); go_simp; first | done | with_reducible rfl)
      try simp only [List.getElem_toArray, List.getElem_cons_succ, List.getElem_cons_zero, Act.put, List.setIfInBounds_toArray, List.set_cons_zero, List.set_cons_succ]
      refine He.wpE_done (by kernel_rfl) ?_
      try simp only [Act.put, List.setIfInBounds_toArray, List.set_cons_zero, List.set_cons_succ]
      go_wp2_with fail
      go_roundw
      case rel => exact ⟨i + 1, t, l, _, by omega, by omega, rfl, by go_num, HG1.out, HZ5.out⟩
      case measure => simp [intOf]; omega
    · have hfin : Hid (Below w.heap.size w wr) := Lib.hid HP.out.md.below0
      clear HP HG
      by_cases hlt : i < xs.length
      · have hlt' : (i : Int) < xs.length := by omega
        have h60' : (200 : Int) ≤ i := by omega
        go_wp2_with fail
        go_ret
        exact ⟨rfl, hfin.out⟩
      · have hlt' : (xs.length : Int) ≤ i := by omega
        go_wp2_with fail
        go_ret
        exact ⟨rfl, hfin.out⟩
end Go.Proofs.Ytcbafomhifdgpaa.Ss
end
