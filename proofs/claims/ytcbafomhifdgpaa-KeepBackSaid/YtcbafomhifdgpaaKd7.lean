/- Two tracks of one content are the same: the contracts of the orders and of Same there. -/
import Derived.Test.YtcbafomhifdgpaaKe2
import Derived.Test.YtcbafomhifdgpaaKe5
namespace Go.Proofs.Ytcbafomhifdgpaa.Ke
open Go.RowKit Mem Bits
set_option linter.unusedSimpArgs false
set_option linter.unusedVariables false
set_option maxRecDepth 100000

set_option maxHeartbeats 2000000 in
theorem order12_calls (l : List Int) (va vb : Value) (hl : l.length ≤ 1000000) (w : World) (ha : IntsAt w va l) (hb : IntsAt w vb l) :
    Calls Try.prog 69 #[va, vb] w fun e w' => e = .returned (.int .i64 0) ∧ Mod w w' [] := by
  have hl' : (l.length : Int) ≤ 1000000 := by omega
  obtain ⟨sa, ca, rfl, hsa⟩ := ha.shape
  obtain ⟨sb, cb, rfl, hsb⟩ := hb.shape
  have HSA := Lib.hid hsa
  have HSB := Lib.hid hsb
  clear ha hb hsa hsb
  go_enter Try.func69, Try.ntmps69
  go_wp2_with fail
  go_loopw [5] (fun vi wr => ∃ i : Nat, i ≤ l.length ∧ vi = .int .i64 (i : Int) ∧ Mod w wr []) (fun vi _ => l.length + 1 - (intOf vi).toNat)
  case atStart => exact ⟨0, Nat.zero_le _, rfl, Mod.refl _ _⟩
  case round =>
    obtain ⟨i, hi, rfl, hm⟩ := hrel
    have HM := Lib.hid hm
    clear hm
    by_cases hlt : i < l.length
    · have hlt' : (i : Int) < l.length := by omega
      have hi0 : (0 : Int) ≤ (i : Int) := by omega
      obtain ⟨ba, oa, rfl, ka, _, ga⟩ := HSA.out (by intro h; rw [h] at hlt; simp at hlt)
      obtain ⟨bb, ob, rfl, kb, _, gb⟩ := HSB.out (by intro h; rw [h] at hlt; simp at hlt)
      have g1 := keepC HM.out (ga i hlt)
      have g2 := keepC HM.out (gb i hlt)
      have k1 := cell_after (cell_lt g1) g1
      have k2 := cell_after (cell_lt g2) g2
      generalize l[i]'hlt = x at *
      clear ga gb HSA HSB
      go_wp2_with fail
      (refine wp_region_quiet_after (by kernel_rfl) (by kernel_rfl) ?_; (repeat (go_big_quiet_step (fail))); refine wpQuiet_nil ?_; intro wq hw'; obtain ⟨⟨wq2, hmq⟩, hw''⟩ := hw'; subst hw'')
      have HM2 := Lib.hid (HM.out.trans0 hmq)
      have g1 := keepC hmq g1
      have g2 := keepC hmq g2
      have k1 := cell_after (cell_lt g1) g1
      have k2 := cell_after (cell_lt g2) g2
      clear hmq
      go_wp2_with fail
      obtain ⟨wz, rfl⟩ : ∃ wz : World, wz = wq := ⟨_, rfl⟩
      (refine wp_region_quiet_after (by kernel_rfl) (by kernel_rfl) ?_; (repeat (go_big_quiet_step (fail))); refine wpQuiet_nil ?_; intro wq hw'; obtain ⟨⟨wq2, hmq⟩, hw''⟩ := hw'; subst hw'')
      have HM3 := Lib.hid (HM2.out.trans0 hmq)
      clear hmq
      go_wp2_with fail
      go_roundw
      case rel => exact ⟨i + 1, by omega, by go_num, HM3.out⟩
      case measure => simp [intOf]; omega
    · have hge : (l.length : Int) ≤ i := by omega
      go_wp2_with fail
      go_ret
      exact ⟨rfl, HM.out⟩

set_option maxHeartbeats 2000000 in
theorem order13_calls (r : Run) (va vb : Value) (hl : r.ps.length ≤ 1000000) (w : World) (ha : IntsAt w va r.ps) (hb : IntsAt w vb r.ps) :
    Calls Try.prog 52 #[runV r va, runV r vb] w fun e w' => e = .returned (.int .i64 0) ∧ Mod w w' [] := by
  have OC := Lib.hid (fun w ha hb => order12_calls r.ps va vb hl w ha hb)
  have HA := Lib.hid ha
  have HB := Lib.hid hb
  obtain ⟨sa, ca, rfl, -⟩ := ha.shape
  obtain ⟨sb, cb, rfl, -⟩ := hb.shape
  have HBa := Lib.hid ((Blk.new w #[.int .i64 r.b, .int .i64 r.st, .int .i64 r.s, .int .u64 r.seen, .slice sa r.ps.length ca] 86).alloc (.cells #[.int .i64 r.b, .int .i64 r.st, .int .i64 r.s, .int .u64 r.seen, .slice sb r.ps.length cb] 86))
  have hbb := Blk.new (w.alloc (.cells #[.int .i64 r.b, .int .i64 r.st, .int .i64 r.s, .int .u64 r.seen, .slice sa r.ps.length ca] 86)) #[.int .i64 r.b, .int .i64 r.st, .int .i64 r.s, .int .u64 r.seen, .slice sb r.ps.length cb] 86
  rw [World.size_alloc] at hbb
  have HBb := Lib.hid hbb
  have HM0 := Lib.hid (((Mod.refl w []).alloc (.cells #[.int .i64 r.b, .int .i64 r.st, .int .i64 r.s, .int .u64 r.seen, .slice sa r.ps.length ca] 86)).alloc (.cells #[.int .i64 r.b, .int .i64 r.st, .int .i64 r.s, .int .u64 r.seen, .slice sb r.ps.length cb] 86))
  clear ha hb hbb
  go_enter Try.func52, Try.ntmps52
  go_wp2_with fail
  (with_reducible refine (OC.out _ ?_ ?_).mono ?_)
  · exact HA.out.mod HM0.out
  · exact HB.out.mod HM0.out
  rintro e w1 ⟨rfl, hm1⟩
  obtain ⟨a0, a1, a2, a3, a4⟩ := Blk5c (HBa.out.mod hm1 (by simp))
  obtain ⟨b0, b1, b2, b3, b4⟩ := Blk5c (HBb.out.mod hm1 (by simp))
  have HM1 := Lib.hid (HM0.out.trans0 hm1)
  clear hm1
  have h1 : decide (r.s < r.s) = false := decide_eq_false (by omega)
  have h2 : decide ((r.seen : Int) < (r.seen : Int)) = false := decide_eq_false (by omega)
  go_wp2_with fail
  go_ret
  exact ⟨rfl, HM1.out⟩

set_option maxHeartbeats 4000000 in
theorem same_calls (t : Trk) (va vb : Value) (hn : t.rs.length ≤ 1000000) (hp : ∀ r ∈ t.rs, r.ps.length ≤ 1000000) (w : World) (ha : RunsAt w va t.rs) (hb : RunsAt w vb t.rs) :
    Calls Try.prog 19 #[trkV t va, trkV t vb] w fun e w' => e = .returned (.bool true) ∧ Mod w w' [] := by
  have hn' : (t.rs.length : Int) ≤ 1000000 := by omega
  have HP := Lib.hid hp
  obtain ⟨sa, ca, rfl, hsa⟩ := ha.shape
  obtain ⟨sb, cb, rfl, hsb⟩ := hb.shape
  have HSA := Lib.hid hsa
  have HSB := Lib.hid hsb
  have HBa := Lib.hid ((Blk.new w #[.int .i64 t.c, .int .i64 t.st, .int .i64 t.lo, .slice sa t.rs.length ca] 34).alloc (.cells #[.int .i64 t.c, .int .i64 t.st, .int .i64 t.lo, .slice sb t.rs.length cb] 34))
  have hbb := Blk.new (w.alloc (.cells #[.int .i64 t.c, .int .i64 t.st, .int .i64 t.lo, .slice sa t.rs.length ca] 34)) #[.int .i64 t.c, .int .i64 t.st, .int .i64 t.lo, .slice sb t.rs.length cb] 34
  rw [World.size_alloc] at hbb
  have HBb := Lib.hid hbb
  have HM0 := Lib.hid (((Mod.refl w []).alloc (.cells #[.int .i64 t.c, .int .i64 t.st, .int .i64 t.lo, .slice sa t.rs.length ca] 34)).alloc (.cells #[.int .i64 t.c, .int .i64 t.st, .int .i64 t.lo, .slice sb t.rs.length cb] 34))
  clear ha hb hbb hsa hsb hp
  go_enter Try.func19, Try.ntmps19
  go_wp2_with fail
  generalize (w.alloc _).alloc _ = W at HBa HBb HM0 ⊢
  obtain ⟨a0, a1, a2, a3⟩ := Blk4c HBa.out
  obtain ⟨b0, b1, b2, b3⟩ := Blk4c HBb.out
  go_wp2_with fail
  go_loopw [5] (fun vi wr => ∃ i : Nat, i ≤ t.rs.length ∧ vi = .int .i64 (i : Int) ∧ Mod W wr []) (fun vi _ => t.rs.length + 1 - (intOf vi).toNat)
  case atStart => exact ⟨0, Nat.zero_le _, rfl, Mod.refl _ _⟩
  case round =>
    obtain ⟨i, hi, rfl, hm⟩ := hrel
    have HM := Lib.hid hm
    obtain ⟨a0, a1, a2, a3⟩ := Blk4c (HBa.out.mod hm (by simp))
    obtain ⟨b0, b1, b2, b3⟩ := Blk4c (HBb.out.mod hm (by simp))
    clear hm
    by_cases hlt : i < t.rs.length
    · have hlt' : (i : Int) < t.rs.length := by omega
      have hi0 : (0 : Int) ≤ (i : Int) := by omega
      obtain ⟨ba, oa, rfl, ka, _, ga⟩ := HSA.out (by intro h; rw [h] at hlt; simp at hlt)
      obtain ⟨bb, ob, rfl, kb, _, gb⟩ := HSB.out (by intro h; rw [h] at hlt; simp at hlt)
      have g1 := (ga i hlt).mod (HM0.out.trans0 HM.out)
      have g2 := (gb i hlt).mod (HM0.out.trans0 HM.out)
      have hpl := HP.out _ (List.getElem_mem hlt)
      generalize t.rs[i]'hlt = r at *
      obtain ⟨c0, c1, c2, c3, pa, c4, c5⟩ := g1
      obtain ⟨d0, d1, d2, d3, pb, d4, d5⟩ := g2
      have OC := Lib.hid (fun w ha hb => order13_calls r pa pb hpl w ha hb)
      have HC5 := Lib.hid c5
      have HD5 := Lib.hid d5
      obtain ⟨xa, ya, rfl, -⟩ := c5.shape
      obtain ⟨xb, yb, rfl, -⟩ := d5.shape
      have q0 := cell_after (cell_lt c0) c0
      have q1 := cell_after (cell_lt c1) c1
      have q2 := cell_after (cell_lt c2) c2
      have q3 := cell_after (cell_lt c3) c3
      have q4 := cell_after (cell_lt c4) c4
      have s0 := cell_after (cell_lt d0) d0
      have s1 := cell_after (cell_lt d1) d1
      have s2 := cell_after (cell_lt d2) d2
      have s3 := cell_after (cell_lt d3) d3
      have s4 := cell_after (cell_lt d4) d4
      have e3 := cell_after (cell_lt a3) a3
      have f3 := cell_after (cell_lt b3) b3
      have hss : (r.st != r.st) = false := by simp
      clear ga gb HSA HSB c5 d5
      go_wp2_with fail
      (refine wp_region_quiet_after (by kernel_rfl) (by kernel_rfl) ?_; (repeat (go_big_quiet_step ((with_reducible refine after_of (OC.out _ (HC5.out.mod (After.mod _)) (HD5.out.mod (After.mod _))))))); refine wpQuiet_nil ?_; intro wq hw'; obtain ⟨⟨wq2, hmq⟩, hw''⟩ := hw'; subst hw'')
      have HM2 := Lib.hid (HM.out.trans0 hmq)
      clear hmq
      go_wp2_with fail
      go_roundw
      case rel => exact ⟨i + 1, by omega, by go_num, HM2.out⟩
      case measure => simp [intOf]; omega
    · have hge : (t.rs.length : Int) ≤ i := by omega
      go_wp2_with fail
      go_ret
      exact ⟨rfl, HM0.out.trans0 HM.out⟩
end Go.Proofs.Ytcbafomhifdgpaa.Ke
