/- The contract of the reference's Check. -/
import Derived.Test.YtdmipmkgoefidaaEvC3
import Derived.Test.YtdmipmkgoefidaaBl
namespace Go.Proofs.Ytdmipmkgoefidaa.Ev
open Go.RowKit Mem Bits EvH
set_option linter.unusedSimpArgs false
set_option linter.unusedVariables false
set_option maxRecDepth 100000

theorem refin_calls (n : Int) (w : World) : Calls Try.prog 28 #[.int .i64 n] w fun e w' => e = .returned (.bool (inB n)) ∧ w = w' := by
  rcases in_cases n with ⟨r1, e⟩ | ⟨r1, r2, e⟩ | ⟨r1, r2, e⟩
  · rw [e]
    clear e
    go_enter Try.func28, Try.ntmps28
    go_wp2_with fail
    go_ret
    exact ⟨rfl, rfl⟩
  · rw [e]
    have hd : decide (n ≤ 549755813888) = false := decide_eq_false (by omega)
    clear e
    go_enter Try.func28, Try.ntmps28
    go_wp2_with fail
    go_ret
    exact ⟨rfl, rfl⟩
  · rw [e]
    have hd : decide (n ≤ 549755813888) = true := decide_eq_true (by omega)
    clear e
    go_enter Try.func28, Try.ntmps28
    go_wp2_with fail
    go_ret
    exact ⟨rfl, rfl⟩

set_option maxHeartbeats 4000000 in
theorem refcheck_calls (a b c : Int) (k : ByteArray) (hk : k.size ≤ 140737488351232) (sl : Value) (l : List Fld) (hl : ∀ x ∈ l, FldOK x) (hn : l.length ≤ 1000000) (w : World) (hf : FldsAt w sl l) :
    Calls Try.prog 14 #[evV a b c k sl] w fun e w' => e = .returned (.int .i64 (checkR a b c k l)) ∧ Mod w w' [] := by
  have ch : checkB a b c k l = (inB a && (inB b && (inB c && (wordB k && (decide (l.length ≤ 8) && fieldsB l))))) := rfl
  have gd := @checkR_good a b c k l
  have bd := @checkR_bad a b c k l
  have IA := Lib.hid (fun w => refin_calls a w)
  have IB := Lib.hid (fun w => refin_calls b w)
  have IC := Lib.hid (fun w => refin_calls c w)
  have WC := Lib.hid (fun w => refword_calls k (by omega) w)
  generalize checkR a b c k l = R at *
  generalize checkB a b c k l = C at *
  generalize inB a = xa at *
  generalize inB b = xb at *
  generalize inB c = xc at *
  generalize wordB k = xw at *
  have CH := Lib.hid ch
  have GD := Lib.hid gd
  have BD := Lib.hid bd
  have hb0 := Blk.new w #[.int .i64 a, .int .i64 b, .int .i64 c, .string k, sl] 32
  have hm0 := (Mod.refl w []).alloc (.cells #[.int .i64 a, .int .i64 b, .int .i64 c, .string k, sl] 32)
  have HB0 := Lib.hid hb0
  have HM0 := Lib.hid hm0
  have HF := Lib.hid hf
  clear ch gd bd hb0 hm0 hf
  cases xa
  · have HR := Lib.hid (BD.out (by rw [CH.out]; rfl))
    go_enter Try.func14, Try.ntmps14
    go_wp2_with fail
    refine (IA.out _).mono ?_
    rintro e w1 ⟨rfl, rfl⟩
    go_wp2_with fail
    go_ret
    exact ⟨by rw [HR.out]; rfl, HM0.out⟩
  cases xb
  · have HR := Lib.hid (BD.out (by rw [CH.out]; rfl))
    go_enter Try.func14, Try.ntmps14
    go_wp2_with fail
    refine (IA.out _).mono ?_
    rintro e w1 ⟨rfl, rfl⟩
    go_wp2_with fail
    refine (IB.out _).mono ?_
    rintro e w1 ⟨rfl, rfl⟩
    go_wp2_with fail
    go_ret
    exact ⟨by rw [HR.out]; rfl, HM0.out⟩
  cases xc
  · have HR := Lib.hid (BD.out (by rw [CH.out]; rfl))
    go_enter Try.func14, Try.ntmps14
    go_wp2_with fail
    refine (IA.out _).mono ?_
    rintro e w1 ⟨rfl, rfl⟩
    go_wp2_with fail
    refine (IB.out _).mono ?_
    rintro e w1 ⟨rfl, rfl⟩
    go_wp2_with fail
    refine (IC.out _).mono ?_
    rintro e w1 ⟨rfl, rfl⟩
    go_wp2_with fail
    go_ret
    exact ⟨by rw [HR.out]; rfl, HM0.out⟩
  cases xw
  · have HR := Lib.hid (BD.out (by rw [CH.out]; rfl))
    go_enter Try.func14, Try.ntmps14
    go_wp2_with fail
    refine (IA.out _).mono ?_
    rintro e w1 ⟨rfl, rfl⟩
    go_wp2_with fail
    refine (IB.out _).mono ?_
    rintro e w1 ⟨rfl, rfl⟩
    go_wp2_with fail
    refine (IC.out _).mono ?_
    rintro e w1 ⟨rfl, rfl⟩
    go_wp2_with fail
    refine (WC.out _).mono ?_
    rintro e w1 ⟨rfl, rfl⟩
    go_wp2_with fail
    go_ret
    exact ⟨by rw [HR.out]; rfl, HM0.out⟩
  have CH3 : Hid (C = (decide (l.length ≤ 8) && fieldsB l)) := Lib.hid (by rw [CH.out]; rfl)
  clear CH
  rcases HF.out with ⟨hnil, a0, cap, hsl⟩ | ⟨bb, off, cap, hsl, hcap, hrow⟩
  · have HR := Lib.hid (GD.out (by rw [CH3.out, hnil]; rfl))
    subst hsl
    clear hnil
    go_enter Try.func14, Try.ntmps14
    go_wp2_with fail
    refine (IA.out _).mono ?_
    rintro e w1 ⟨rfl, rfl⟩
    go_wp2_with fail
    refine (IB.out _).mono ?_
    rintro e w1 ⟨rfl, rfl⟩
    go_wp2_with fail
    refine (IC.out _).mono ?_
    rintro e w1 ⟨rfl, rfl⟩
    go_wp2_with fail
    refine (WC.out _).mono ?_
    rintro e w1 ⟨rfl, rfl⟩
    go_wp2_with fail
    go_loop [3] (fun v => v = .int .i64 0) (fun v => 0)
    case atStart => rfl
    case round =>
      subst hrel
      go_wp2_with fail
      go_ret
      exact ⟨by rw [HR.out]; rfl, HM0.out⟩
  subst hsl
  by_cases h8 : l.length ≤ 8
  case neg =>
    have HR := Lib.hid (BD.out (by rw [CH3.out, decide_eq_false h8]; rfl))
    have h8' : 8 < (l.length : Int) := by omega
    clear h8
    go_enter Try.func14, Try.ntmps14
    go_wp2_with fail
    refine (IA.out _).mono ?_
    rintro e w1 ⟨rfl, rfl⟩
    go_wp2_with fail
    refine (IB.out _).mono ?_
    rintro e w1 ⟨rfl, rfl⟩
    go_wp2_with fail
    refine (IC.out _).mono ?_
    rintro e w1 ⟨rfl, rfl⟩
    go_wp2_with fail
    refine (WC.out _).mono ?_
    rintro e w1 ⟨rfl, rfl⟩
    go_wp2_with fail
    go_ret
    exact ⟨by rw [HR.out]; rfl, HM0.out⟩
  have CH4 : Hid (C = fieldsB l) := Lib.hid (by rw [CH3.out, decide_eq_true h8]; rfl)
  have HROW := Lib.hid (hrow.mod HM0.out)
  have h8' : (l.length : Int) ≤ 8 := by omega
  clear CH3 h8 hrow HF
  go_enter Try.func14, Try.ntmps14
  go_wp2_with fail
  refine (IA.out _).mono ?_
  rintro e w1 ⟨rfl, rfl⟩
  go_wp2_with fail
  refine (IB.out _).mono ?_
  rintro e w1 ⟨rfl, rfl⟩
  go_wp2_with fail
  refine (IC.out _).mono ?_
  rintro e w1 ⟨rfl, rfl⟩
  go_wp2_with fail
  refine (WC.out _).mono ?_
  rintro e w1 ⟨rfl, rfl⟩
  go_wp2_with fail
  generalize w.alloc _ = W at HB0 HM0 HROW ⊢
  go_loopw [3] (fun v wr => ∃ i : Nat, i ≤ l.length ∧ v = .int .i64 (i : Int) ∧ Mod W wr [] ∧ Hid (∀ j, j < i → goodF l j = true)) (fun v _ => l.length + 1 - (intOf v).toNat)
  case atStart => exact ⟨0, by omega, rfl, Mod.refl _ _, Lib.hid (fun j hj => by omega)⟩
  case round =>
    obtain ⟨i, hi, rfl, hm, HG⟩ := hrel
    have HM := Lib.hid hm
    obtain ⟨b0, b1, b2, b3, b4⟩ := Blk5 (HB0.out.mod hm (by simp))
    clear b0 b1 b2 b3
    by_cases hlt : i < l.length
    · have hlt' : (i : Int) < l.length := by omega
      have hcs := HROW.out.mod hm i hlt
      have hle : (l[i]'hlt).name.size ≤ 140737488355328 ∧ (l[i]'hlt).v.s.size ≤ 140737488355328 := by
        have := hl _ (List.getElem_mem hlt)
        exact ⟨by have := this.name; omega, by have := this.s; omega⟩
      have hgi : goodF l i = (wordB (l[i]'hlt).name && (mayB (l[i]'hlt).v.k (l[i]'hlt).v.n (l[i]'hlt).v.f (l[i]'hlt).v.s && (decide (i = 0) || lessB (l[i - 1]!).name (l[i]'hlt).name))) := by
        unfold goodF; rw [getElem!_pos l i hlt]
      obtain ⟨x, hx⟩ : ∃ x, (l[i]'hlt) = x := ⟨_, rfl⟩
      rw [hx] at hcs hle hgi
      have HCS := Lib.hid hcs
      obtain ⟨c0, c1, c2, c3, c4⟩ := hcs
      have NC := Lib.hid (fun w => refword_calls x.name hle.1 w)
      have YC := Lib.hid (fun w => refmay_calls x.v.k x.v.n x.v.f x.v.s hle.2 w)
      have HFB := Lib.hid (fields_bad l i hlt)
      generalize hxw : wordB x.name = xw at *
      generalize hxm : mayB x.v.k x.v.n x.v.f x.v.s = xm at *
      have HGI0 := Lib.hid hgi
      clear hm hgi hx hxw hxm hle
      cases xw
      · have HR := Lib.hid (BD.out (by rw [CH4.out, HFB.out (by rw [HGI0.out]; rfl)]))
        go_wp2_with fail
        refine (NC.out _).mono ?_
        rintro e w1 ⟨rfl, rfl⟩
        go_wp2_with fail
        go_ret
        exact ⟨by rw [HR.out]; rfl, HM0.out.trans0 HM.out⟩
      cases xm
      · have HR := Lib.hid (BD.out (by rw [CH4.out, HFB.out (by rw [HGI0.out]; rfl)]))
        go_wp2_with fail
        refine (NC.out _).mono ?_
        rintro e w1 ⟨rfl, rfl⟩
        go_wp2_with fail
        refine (YC.out _).mono ?_
        rintro e w1 ⟨rfl, hm1⟩
        go_wp2_with fail
        go_ret
        exact ⟨by rw [HR.out]; rfl, (HM0.out.trans0 HM.out).trans0 hm1⟩
      by_cases h0 : i = 0
      · have HGI : Hid (goodF l i = true) := Lib.hid (by rw [HGI0.out, h0]; rfl)
        have hi0 : (i : Int) ≤ 0 := by omega
        have hdi : decide (0 < i) = false := decide_eq_false (by omega)
        clear h0
        go_wp2_with fail
        refine (NC.out _).mono ?_
        rintro e w1 ⟨rfl, rfl⟩
        go_wp2_with fail
        refine (YC.out _).mono ?_
        rintro e w1 ⟨rfl, hm1⟩
        have HM1 := Lib.hid (HM.out.trans0 hm1)
        clear hm1 b4 c0 c1 c2 c3 c4
        go_wp2_with fail
        (refine wp_region_quiet_after (by kernel_rfl) (by kernel_rfl) ?_; (repeat (go_big_quiet_step (fail))); refine wpQuiet_nil ?_; intro _ hw'; obtain ⟨⟨wq, hmq⟩, hw''⟩ := hw'; subst hw'')
        have M3 := Lib.hid (HM1.out.trans0 hmq)
        clear hmq
        go_wp2_with fail
        go_roundw
        case rel => exact ⟨i + 1, by omega, by go_num, M3.out, Lib.hid (fun j hj => by rcases (by omega : j < i ∨ j = i) with h | rfl; exact HG.out j h; exact HGI.out)⟩
        case measure => simp [intOf]; omega
      · have h1 : i - 1 < l.length := by omega
        have hgi1 : goodF l i = lessB (l[i - 1]'h1).name x.name := by rw [HGI0.out, getElem!_pos l (i - 1) h1, decide_eq_false h0]; rfl
        have HROW1 := Lib.hid (HROW.out.mod HM.out (i - 1) h1)
        obtain ⟨y, hy⟩ : ∃ y, (l[i - 1]'h1) = y := ⟨_, rfl⟩
        rw [hy] at hgi1 HROW1
        have hi0 : 0 < (i : Int) := by omega
        have hdi : decide (0 < i) = true := decide_eq_true (by omega)
        have hi1 : 0 ≤ (i : Int) - 1 := by omega
        have hi2 : (i : Int) - 1 < l.length := by omega
        have hi3 : ((i : Int) - 1).toNat = i - 1 := by omega
        have hi4 : IntKind.i64.wrap ((i : Int) - 1) = (i : Int) - 1 := IntWalk.i64_in _ (by omega)
        have HGI1 := Lib.hid hgi1
        clear hgi1 hy h0
        rcases Bt.str_tri y.name x.name with ⟨hls, q1, q2, q3⟩ | ⟨hls, q1, q2, q3⟩ | ⟨hls, q1, q2, q3⟩
        · have HGI : Hid (goodF l i = true) := Lib.hid (by rw [HGI1.out]; exact hls)
          go_wp2_with fail
          refine (NC.out _).mono ?_
          rintro e w1 ⟨rfl, rfl⟩
          go_wp2_with fail
          refine (YC.out _).mono ?_
          rintro e w1 ⟨rfl, hm1⟩
          have HM1 := Lib.hid (HM.out.trans0 hm1)
          have HB1 := Lib.hid (HB0.out.mod HM1.out (by simp))
          have HC1 := Lib.hid (HCS.out.mod hm1)
          have HR1 := Lib.hid (HROW1.out.mod hm1)
          clear hm1 b4 c0 c1 c2 c3 c4
          go_wp2_with fail
          obtain ⟨v0, v1, v2, v3, v4⟩ := BlkA5 HB1.out
          obtain ⟨p0, _, _, _, _⟩ := Cells5.after HR1.out
          obtain ⟨q0, _, _, _, _⟩ := Cells5.after HC1.out
          (refine wp_region_quiet_after (by kernel_rfl) (by kernel_rfl) ?_; (repeat (go_big_quiet_step (fail))); refine wpQuiet_nil ?_; intro _ hw'; obtain ⟨⟨wq, hmq⟩, hw''⟩ := hw'; subst hw'')
          have M3 := Lib.hid (HM1.out.trans0 hmq)
          clear hmq v0 v1 v2 v3 v4 p0 q0
          go_wp2_with fail
          go_roundw
          case rel => exact ⟨i + 1, by omega, by go_num, M3.out, Lib.hid (fun j hj => by rcases (by omega : j < i ∨ j = i) with h | rfl; exact HG.out j h; exact HGI.out)⟩
          case measure => simp [intOf]; omega
        · have HR := Lib.hid (BD.out (by rw [CH4.out, HFB.out (by rw [HGI1.out]; exact hls)]))
          go_wp2_with fail
          refine (NC.out _).mono ?_
          rintro e w1 ⟨rfl, rfl⟩
          go_wp2_with fail
          refine (YC.out _).mono ?_
          rintro e w1 ⟨rfl, hm1⟩
          have HM1 := Lib.hid (HM.out.trans0 hm1)
          have HB1 := Lib.hid (HB0.out.mod HM1.out (by simp))
          have HC1 := Lib.hid (HCS.out.mod hm1)
          have HR1 := Lib.hid (HROW1.out.mod hm1)
          clear hm1 b4 c0 c1 c2 c3 c4
          go_wp2_with fail
          obtain ⟨v0, v1, v2, v3, v4⟩ := BlkA5 HB1.out
          obtain ⟨p0, _, _, _, _⟩ := Cells5.after HR1.out
          obtain ⟨q0, _, _, _, _⟩ := Cells5.after HC1.out
          (refine wp_region_quiet_after (by kernel_rfl) (by kernel_rfl) ?_; (repeat (go_big_quiet_step (fail))); refine wpQuiet_nil ?_; intro _ hw'; obtain ⟨⟨wq, hmq⟩, hw''⟩ := hw'; subst hw'')
          have M3 := Lib.hid (HM1.out.trans0 hmq)
          clear hmq v0 v1 v2 v3 v4 p0 q0
          go_wp2_with fail
          go_ret
          exact ⟨by rw [HR.out]; rfl, HM0.out.trans0 M3.out⟩
        · have HR := Lib.hid (BD.out (by rw [CH4.out, HFB.out (by rw [HGI1.out]; exact hls)]))
          go_wp2_with fail
          refine (NC.out _).mono ?_
          rintro e w1 ⟨rfl, rfl⟩
          go_wp2_with fail
          refine (YC.out _).mono ?_
          rintro e w1 ⟨rfl, hm1⟩
          have HM1 := Lib.hid (HM.out.trans0 hm1)
          have HB1 := Lib.hid (HB0.out.mod HM1.out (by simp))
          have HC1 := Lib.hid (HCS.out.mod hm1)
          have HR1 := Lib.hid (HROW1.out.mod hm1)
          clear hm1 b4 c0 c1 c2 c3 c4
          go_wp2_with fail
          obtain ⟨v0, v1, v2, v3, v4⟩ := BlkA5 HB1.out
          obtain ⟨p0, _, _, _, _⟩ := Cells5.after HR1.out
          obtain ⟨q0, _, _, _, _⟩ := Cells5.after HC1.out
          (refine wp_region_quiet_after (by kernel_rfl) (by kernel_rfl) ?_; (repeat (go_big_quiet_step (fail))); refine wpQuiet_nil ?_; intro _ hw'; obtain ⟨⟨wq, hmq⟩, hw''⟩ := hw'; subst hw'')
          have M3 := Lib.hid (HM1.out.trans0 hmq)
          clear hmq v0 v1 v2 v3 v4 p0 q0
          go_wp2_with fail
          go_ret
          exact ⟨by rw [HR.out]; rfl, HM0.out.trans0 M3.out⟩
    · have HR := Lib.hid (GD.out (by rw [CH4.out]; exact fields_good l (fun j hj => HG.out j (by omega))))
      have hge : (l.length : Int) ≤ i := by omega
      go_wp2_with fail
      go_ret
      exact ⟨by rw [HR.out]; rfl, HM0.out.trans0 HM.out⟩
end Go.Proofs.Ytdmipmkgoefidaa.Ev
