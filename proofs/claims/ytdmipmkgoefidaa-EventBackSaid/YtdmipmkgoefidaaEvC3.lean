/- The contract of Check. -/
import Derived.Test.YtdmipmkgoefidaaEvC2
namespace Go.Proofs.Ytdmipmkgoefidaa.Ev
open Go.RowKit Mem Bits EvH
set_option linter.unusedSimpArgs false
set_option linter.unusedVariables false
set_option maxRecDepth 100000

theorem Blk5 {w : World} {g : Nat} {a b c d e : Value} {t : TypeId} (h : Blk w g #[a, b, c, d, e] t) : w.cell? ⟨g, 0, none⟩ = some a ∧ w.cell? ⟨g, 1, none⟩ = some b ∧ w.cell? ⟨g, 2, none⟩ = some c ∧ w.cell? ⟨g, 3, none⟩ = some d ∧ w.cell? ⟨g, 4, none⟩ = some e := ⟨h.cell 0, h.cell 1, h.cell 2, h.cell 3, h.cell 4⟩
theorem BlkA5 {W : World} {g : Nat} {a b c d e : Value} {t : TypeId} (h : Blk W g #[a, b, c, d, e] t) : (∀ p : After W, p.world.cell? ⟨g, 0, none⟩ = some a) ∧ (∀ p : After W, p.world.cell? ⟨g, 1, none⟩ = some b) ∧ (∀ p : After W, p.world.cell? ⟨g, 2, none⟩ = some c) ∧ (∀ p : After W, p.world.cell? ⟨g, 3, none⟩ = some d) ∧ (∀ p : After W, p.world.cell? ⟨g, 4, none⟩ = some e) :=
  ⟨fun p => (h.mod p.mod (by simp)).cell 0, fun p => (h.mod p.mod (by simp)).cell 1, fun p => (h.mod p.mod (by simp)).cell 2, fun p => (h.mod p.mod (by simp)).cell 3, fun p => (h.mod p.mod (by simp)).cell 4⟩
theorem Cells5.after {W : World} {b o : Nat} {x : Fld} (h : Cells5 W b o x) : (∀ p : After W, p.world.cell? ⟨b, o, none⟩ = some (.string x.name)) ∧ (∀ p : After W, p.world.cell? ⟨b, o + 1, none⟩ = some (.int .i64 x.v.k)) ∧ (∀ p : After W, p.world.cell? ⟨b, o + 2, none⟩ = some (.int .i64 x.v.n)) ∧ (∀ p : After W, p.world.cell? ⟨b, o + 3, none⟩ = some (.float .f64 x.v.f)) ∧ (∀ p : After W, p.world.cell? ⟨b, o + 4, none⟩ = some (.string x.v.s)) :=
  ⟨fun p => (h.mod p.mod).c0, fun p => (h.mod p.mod).c1, fun p => (h.mod p.mod).c2, fun p => (h.mod p.mod).c3, fun p => (h.mod p.mod).c4⟩

set_option maxHeartbeats 4000000 in
theorem check_calls (a b c : Int) (k : ByteArray) (hk : k.size ≤ 140737488351232) (sl : Value) (l : List Fld) (hl : ∀ x ∈ l, FldOK x) (hn : l.length ≤ 1000000) (w : World) (hf : FldsAt w sl l) :
    Calls Try.prog 13 #[evV a b c k sl] w fun e w' => e = .returned (.int .i64 (checkR a b c k l)) ∧ Mod w w' [] := by
  have WC := Lib.hid (fun w => word_calls k (by omega) w)
  have ch : checkB a b c k l = (inB a && (inB b && (inB c && (wordB k && (decide (l.length ≤ 8) && fieldsB l))))) := rfl
  have gd := @checkR_good a b c k l
  have bd := @checkR_bad a b c k l
  generalize checkR a b c k l = R at *
  generalize checkB a b c k l = C at *
  have CH := Lib.hid ch
  have GD := Lib.hid gd
  have BD := Lib.hid bd
  have hb0 := Blk.new w #[.int .i64 a, .int .i64 b, .int .i64 c, .string k, sl] 24
  have hm0 := (Mod.refl w []).alloc (.cells #[.int .i64 a, .int .i64 b, .int .i64 c, .string k, sl] 24)
  have HB0 := Lib.hid (hb0.alloc (.cells #[.int .i64 a, .int .i64 b, .int .i64 c] 3))
  have HM0 := Lib.hid (hm0.alloc (.cells #[.int .i64 a, .int .i64 b, .int .i64 c] 3))
  have HF := Lib.hid hf
  clear ch gd bd hb0 hm0 hf
  obtain ⟨xa, ha⟩ : ∃ x, inB a = x := ⟨_, rfl⟩
  obtain ⟨xb, hb⟩ : ∃ x, inB b = x := ⟨_, rfl⟩
  obtain ⟨xc, hc⟩ : ∃ x, inB c = x := ⟨_, rfl⟩
  have HA := Lib.hid ha
  have HB := Lib.hid hb
  have HC := Lib.hid hc
  have ca := in_cases a
  have cb := in_cases b
  have cc := in_cases c
  rw [ha] at ca
  rw [hb] at cb
  rw [hc] at cc
  clear ha hb hc
  have hbs := Blk.new (w.alloc (.cells #[.int .i64 a, .int .i64 b, .int .i64 c, .string k, sl] 24)) #[.int .i64 a, .int .i64 b, .int .i64 c] 3
  rw [World.size_alloc] at hbs
  have HBS := Lib.hid hbs
  clear hbs
  go_enter Try.func13, Try.ntmps13
  go_wp2_with fail
  generalize (w.alloc _).alloc _ = W at HB0 HM0 HBS ⊢
  obtain ⟨b0, b1, b2, b3, b4⟩ := Blk5 HB0.out
  have s0 : W.cell? ⟨w.heap.size + 1, 0, none⟩ = some (.int .i64 a) := HBS.out.cell 0
  have s1 : W.cell? ⟨w.heap.size + 1, 1, none⟩ = some (.int .i64 b) := HBS.out.cell 1
  have s2 : W.cell? ⟨w.heap.size + 1, 2, none⟩ = some (.int .i64 c) := HBS.out.cell 2
  go_loop [15] (fun v => ∃ j : Int, (j = 0 ∨ j = 1 ∨ j = 2 ∨ j = 3) ∧ v = .int .i64 j ∧ Hid ((1 ≤ j → xa = true) ∧ (2 ≤ j → xb = true) ∧ (3 ≤ j → xc = true))) (fun v => (4 - intOf v).toNat)
  case atStart => exact ⟨0, .inl rfl, rfl, Lib.hid (by simp)⟩
  case round =>
    obtain ⟨j, hj, rfl, HJ⟩ := hrel
    rcases hj with rfl | rfl | rfl | rfl
    · rcases ca with ⟨r1, e⟩ | ⟨r1, r2, e⟩ | ⟨r1, r2, e⟩
      · have HR := Lib.hid (BD.out (by rw [CH.out, HA.out, e]; rfl))
        clear e
        go_wp2_with fail
        go_ret
        exact ⟨by rw [HR.out]; rfl, HM0.out⟩
      · have HR := Lib.hid (BD.out (by rw [CH.out, HA.out, e]; rfl))
        clear e
        go_wp2_with fail
        go_ret
        exact ⟨by rw [HR.out]; rfl, HM0.out⟩
      · have HE := Lib.hid e
        clear e
        go_wp2_with fail
        go_round
        case rel => exact ⟨1, .inr (.inl rfl), rfl, Lib.hid ⟨fun _ => HE.out, by omega, by omega⟩⟩
        case measure => simp [intOf]
    · rcases cb with ⟨r1, e⟩ | ⟨r1, r2, e⟩ | ⟨r1, r2, e⟩
      · have HR := Lib.hid (BD.out (by rw [CH.out, HB.out, e]; simp))
        clear e
        go_wp2_with fail
        go_ret
        exact ⟨by rw [HR.out]; rfl, HM0.out⟩
      · have HR := Lib.hid (BD.out (by rw [CH.out, HB.out, e]; simp))
        clear e
        go_wp2_with fail
        go_ret
        exact ⟨by rw [HR.out]; rfl, HM0.out⟩
      · have HE := Lib.hid e
        clear e
        go_wp2_with fail
        go_round
        case rel => exact ⟨2, .inr (.inr (.inl rfl)), rfl, Lib.hid ⟨fun _ => HJ.out.1 (by omega), fun _ => HE.out, by omega⟩⟩
        case measure => simp [intOf]
    · rcases cc with ⟨r1, e⟩ | ⟨r1, r2, e⟩ | ⟨r1, r2, e⟩
      · have HR := Lib.hid (BD.out (by rw [CH.out, HC.out, e]; simp))
        clear e
        go_wp2_with fail
        go_ret
        exact ⟨by rw [HR.out]; rfl, HM0.out⟩
      · have HR := Lib.hid (BD.out (by rw [CH.out, HC.out, e]; simp))
        clear e
        go_wp2_with fail
        go_ret
        exact ⟨by rw [HR.out]; rfl, HM0.out⟩
      · have HE := Lib.hid e
        clear e
        go_wp2_with fail
        go_round
        case rel => exact ⟨3, .inr (.inr (.inr rfl)), rfl, Lib.hid ⟨fun _ => HJ.out.1 (by omega), fun _ => HJ.out.2.1 (by omega), fun _ => HE.out⟩⟩
        case measure => simp [intOf]
    · have CH2 : Hid (C = (wordB k && (decide (l.length ≤ 8) && fieldsB l))) := Lib.hid (by
        rw [CH.out, HA.out, HB.out, HC.out, HJ.out.1 (by omega), HJ.out.2.1 (by omega), HJ.out.2.2 (by omega)]; rfl)
      clear ca cb cc HA HB HC HJ CH s0 s1 s2
      cases hw : wordB k
      · have HR := Lib.hid (BD.out (by rw [CH2.out, hw]; rfl))
        rw [hw] at WC
        clear hw
        go_wp2_with fail
        refine (WC.out _).mono ?_
        rintro e w1 ⟨rfl, rfl⟩
        go_wp2_with fail
        go_ret
        exact ⟨by rw [HR.out]; rfl, HM0.out⟩
      rw [hw] at WC
      have CH3 : Hid (C = (decide (l.length ≤ 8) && fieldsB l)) := Lib.hid (by rw [CH2.out, hw]; rfl)
      clear hw CH2
      rcases HF.out with ⟨hnil, a0, cap, hsl⟩ | ⟨bb, off, cap, hsl, hcap, hrow⟩
      · have HR := Lib.hid (GD.out (by rw [CH3.out, hnil]; rfl))
        subst hsl
        clear hnil
        go_wp2_with fail
        refine (WC.out _).mono ?_
        rintro e w1 ⟨rfl, rfl⟩
        go_wp2_with fail
        go_loop [39] (fun v => v = .int .i64 0) (fun v => 0)
        case atStart => rfl
        case round =>
          subst hrel
          go_wp2_with fail
          go_ret
          exact ⟨by rw [HR.out]; rfl, HM0.out⟩
      subst hsl
      by_cases h8 : l.length ≤ 8
      case neg =>
        have HR := Lib.hid (BD.out (by rw [CH3.out, decide_eq_false h8]; rfl))
        have h8' : 8 < (l.length : Int) := by omega
        go_wp2_with fail
        refine (WC.out _).mono ?_
        rintro e w1 ⟨rfl, rfl⟩
        go_wp2_with fail
        go_ret
        exact ⟨by rw [HR.out]; rfl, HM0.out⟩
      have CH4 : Hid (C = fieldsB l) := Lib.hid (by rw [CH3.out, decide_eq_true h8]; rfl)
      have HROW := Lib.hid (hrow.mod HM0.out)
      have h8' : (l.length : Int) ≤ 8 := by omega
      clear CH3 h8 hrow HF
      go_wp2_with fail
      refine (WC.out _).mono ?_
      rintro e w1 ⟨rfl, rfl⟩
      go_wp2_with fail
      go_loopw [39] (fun v wr => ∃ i : Nat, i ≤ l.length ∧ v = .int .i64 (i : Int) ∧ Mod W wr [] ∧ Hid (∀ j, j < i → goodF l j = true)) (fun v _ => l.length + 1 - (intOf v).toNat)
      case atStart => exact ⟨0, by omega, rfl, Mod.refl _ _, Lib.hid (fun j hj => by omega)⟩
      case round =>
        obtain ⟨i, hi, rfl, hm, HG⟩ := hrel
        have HM := Lib.hid hm
        by_cases hlt : i < l.length
        · have hlt' : (i : Int) < l.length := by omega
          have hcs := HROW.out.mod hm i hlt
          have hle : (l[i]'hlt).name.size ≤ 140737488355328 ∧ (l[i]'hlt).v.s.size ≤ 140737488355328 := by
            have := hl _ (List.getElem_mem hlt)
            exact ⟨by have := this.name; omega, by have := this.s; omega⟩
          have hgi : goodF l i = (wordB (l[i]'hlt).name && (mayB (l[i]'hlt).v.k (l[i]'hlt).v.n (l[i]'hlt).v.f (l[i]'hlt).v.s && (decide (i = 0) || lessB (l[i - 1]!).name (l[i]'hlt).name))) := by
            unfold goodF; rw [getElem!_pos l i hlt]
          obtain ⟨x, hx⟩ : ∃ x, (l[i]'hlt) = x := ⟨_, rfl⟩
          rw [hx] at hcs hle hgi
          obtain ⟨c0, c1, c2, c3, c4⟩ := hcs
          have NC := Lib.hid (fun w => word_calls x.name hle.1 w)
          have YC := Lib.hid (fun w => may_calls x.v.k x.v.n x.v.f x.v.s hle.2 w)
          have hfb := fields_bad l i hlt
          have HV := Lib.hid (Blk.new wr #[.string x.name, .int .i64 x.v.k, .int .i64 x.v.n, .float .f64 x.v.f, .string x.v.s] 60)
          have HM2 := Lib.hid (hm.alloc (.cells #[.string x.name, .int .i64 x.v.k, .int .i64 x.v.n, .float .f64 x.v.f, .string x.v.s] 60))
          have HE2 := Lib.hid ((HB0.out.mod hm (by simp)).alloc (.cells #[.string x.name, .int .i64 x.v.k, .int .i64 x.v.n, .float .f64 x.v.f, .string x.v.s] 60))
          have HP := Lib.hid ((Mod.refl wr []).alloc (.cells #[.string x.name, .int .i64 x.v.k, .int .i64 x.v.n, .float .f64 x.v.f, .string x.v.s] 60))
          have HROW2 := Lib.hid (HROW.out.mod hm)
          have HFB := Lib.hid hfb
          generalize hxw : wordB x.name = xw at *
          generalize hxm : mayB x.v.k x.v.n x.v.f x.v.s = xm at *
          have HGI0 := Lib.hid hgi
          have HX := Lib.hid hx
          clear hm hfb hgi hx hxw hxm hle
          cases xw
          · have HR := Lib.hid (BD.out (by rw [CH4.out, HFB.out (by rw [HGI0.out]; rfl)]))
            go_wp2_with fail
            generalize wr.alloc _ = W2 at HV HM2 HE2 HP ⊢
            obtain ⟨v0, v1, v2, v3, v4⟩ := BlkA5 HV.out
            obtain ⟨w0, w1, w2, w3, w4⟩ := BlkA5 HE2.out
            (refine wp_region_quiet_after (by kernel_rfl) (by kernel_rfl) ?_; (repeat (go_big_quiet_step ((first | (with_reducible refine after_same (NC.out _)) | (with_reducible refine after_of (YC.out _)))))); refine wpQuiet_nil ?_; intro _ hw'; obtain ⟨⟨wq, hmq⟩, hw''⟩ := hw'; subst hw'')
            have M3 := Lib.hid (HM2.out.trans0 hmq)
            clear v0 v1 v2 v3 v4 w0 w1 w2 w3 w4 hmq
            go_wp2_with fail
            go_ret
            exact ⟨by rw [HR.out]; rfl, HM0.out.trans0 M3.out⟩
          cases xm
          · have HR := Lib.hid (BD.out (by rw [CH4.out, HFB.out (by rw [HGI0.out]; rfl)]))
            go_wp2_with fail
            generalize wr.alloc _ = W2 at HV HM2 HE2 HP ⊢
            obtain ⟨v0, v1, v2, v3, v4⟩ := BlkA5 HV.out
            obtain ⟨w0, w1, w2, w3, w4⟩ := BlkA5 HE2.out
            (refine wp_region_quiet_after (by kernel_rfl) (by kernel_rfl) ?_; (repeat (go_big_quiet_step ((first | (with_reducible refine after_same (NC.out _)) | (with_reducible refine after_of (YC.out _)))))); refine wpQuiet_nil ?_; intro _ hw'; obtain ⟨⟨wq, hmq⟩, hw''⟩ := hw'; subst hw'')
            have M3 := Lib.hid (HM2.out.trans0 hmq)
            clear v0 v1 v2 v3 v4 w0 w1 w2 w3 w4 hmq
            go_wp2_with fail
            go_ret
            exact ⟨by rw [HR.out]; rfl, HM0.out.trans0 M3.out⟩
          by_cases h0 : i = 0
          · have HGI : Hid (goodF l i = true) := Lib.hid (by rw [HGI0.out, h0]; rfl)
            have hi0 : (i : Int) ≤ 0 := by omega
            have hdi : decide (0 < i) = false := decide_eq_false (by omega)
            clear h0
            go_wp2_with fail
            generalize wr.alloc _ = W2 at HV HM2 HE2 HP ⊢
            obtain ⟨v0, v1, v2, v3, v4⟩ := BlkA5 HV.out
            obtain ⟨w0, w1, w2, w3, w4⟩ := BlkA5 HE2.out
            (refine wp_region_quiet_after (by kernel_rfl) (by kernel_rfl) ?_; (repeat (go_big_quiet_step ((first | (with_reducible refine after_same (NC.out _)) | (with_reducible refine after_of (YC.out _)))))); refine wpQuiet_nil ?_; intro _ hw'; obtain ⟨⟨wq, hmq⟩, hw''⟩ := hw'; subst hw'')
            have M3 := Lib.hid (HM2.out.trans0 hmq)
            clear v0 v1 v2 v3 v4 w0 w1 w2 w3 w4 hmq
            go_wp2_with fail
            go_roundw
            case rel => exact ⟨i + 1, by omega, by go_num, M3.out, Lib.hid (fun j hj => by rcases (by omega : j < i ∨ j = i) with h | rfl; exact HG.out j h; exact HGI.out)⟩
            case measure => simp [intOf]; omega
          · have h1 : i - 1 < l.length := by omega
            have hpc := HROW2.out (i - 1) h1
            have hgi1 : goodF l i = lessB (l[i - 1]'h1).name x.name := by rw [HGI0.out, getElem!_pos l (i - 1) h1, decide_eq_false h0]; rfl
            obtain ⟨y, hy⟩ : ∃ y, (l[i - 1]'h1) = y := ⟨_, rfl⟩
            rw [hy] at hpc hgi1
            have hpc2 := hpc.mod HP.out
            have HPC := Lib.hid hpc2
            have hi0 : 0 < (i : Int) := by omega
            have hdi : decide (0 < i) = true := decide_eq_true (by omega)
            have hi1 : 0 ≤ (i : Int) - 1 := by omega
            have hi2 : (i : Int) - 1 < l.length := by omega
            have hi3 : ((i : Int) - 1).toNat = i - 1 := by omega
            have hi4 : IntKind.i64.wrap ((i : Int) - 1) = (i : Int) - 1 := IntWalk.i64_in _ (by omega)
            have HGI1 := Lib.hid hgi1
            clear hgi1 hpc hpc2 hy h0
            cases hls : Op.bytesLess y.name.toList x.name.toList
            · have HR := Lib.hid (BD.out (by rw [CH4.out, HFB.out (by rw [HGI1.out]; exact hls)]))
              go_wp2_with fail
              generalize wr.alloc _ = W2 at HV HM2 HE2 HP HPC ⊢
              obtain ⟨v0, v1, v2, v3, v4⟩ := BlkA5 HV.out
              obtain ⟨w0, w1, w2, w3, w4⟩ := BlkA5 HE2.out
              obtain ⟨p0, _, _, _, _⟩ := Cells5.after HPC.out
              (refine wp_region_quiet_after (by kernel_rfl) (by kernel_rfl) ?_; (repeat (go_big_quiet_step ((first | (with_reducible refine after_same (NC.out _)) | (with_reducible refine after_of (YC.out _)))))); refine wpQuiet_nil ?_; intro _ hw'; obtain ⟨⟨wq, hmq⟩, hw''⟩ := hw'; subst hw'')
              have M3 := Lib.hid (HM2.out.trans0 hmq)
              clear v0 v1 v2 v3 v4 w0 w1 w2 w3 w4 hmq p0
              go_wp2_with fail
              go_ret
              exact ⟨by rw [HR.out]; rfl, HM0.out.trans0 M3.out⟩
            · have HGI : Hid (goodF l i = true) := Lib.hid (by rw [HGI1.out]; exact hls)
              go_wp2_with fail
              generalize wr.alloc _ = W2 at HV HM2 HE2 HP HPC ⊢
              obtain ⟨v0, v1, v2, v3, v4⟩ := BlkA5 HV.out
              obtain ⟨w0, w1, w2, w3, w4⟩ := BlkA5 HE2.out
              obtain ⟨p0, _, _, _, _⟩ := Cells5.after HPC.out
              (refine wp_region_quiet_after (by kernel_rfl) (by kernel_rfl) ?_; (repeat (go_big_quiet_step ((first | (with_reducible refine after_same (NC.out _)) | (with_reducible refine after_of (YC.out _)))))); refine wpQuiet_nil ?_; intro _ hw'; obtain ⟨⟨wq, hmq⟩, hw''⟩ := hw'; subst hw'')
              have M3 := Lib.hid (HM2.out.trans0 hmq)
              clear v0 v1 v2 v3 v4 w0 w1 w2 w3 w4 hmq p0
              go_wp2_with fail
              go_roundw
              case rel => exact ⟨i + 1, by omega, by go_num, M3.out, Lib.hid (fun j hj => by rcases (by omega : j < i ∨ j = i) with h | rfl; exact HG.out j h; exact HGI.out)⟩
              case measure => simp [intOf]; omega
        · have HR := Lib.hid (GD.out (by rw [CH4.out]; exact fields_good l (fun j hj => HG.out j (by omega))))
          have hge : (l.length : Int) ≤ i := by omega
          go_wp2_with fail
          go_ret
          exact ⟨by rw [HR.out]; rfl, HM0.out.trans0 HM.out⟩
end Go.Proofs.Ytdmipmkgoefidaa.Ev
