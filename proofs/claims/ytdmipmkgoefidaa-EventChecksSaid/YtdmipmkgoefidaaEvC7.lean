/- The contract of the reference's Encode. -/
import Derived.Test.YtdmipmkgoefidaaEvC6
import Derived.Test.YtdmipmkgoefidaaBits8
namespace Go.Proofs.Ytdmipmkgoefidaa.Ev
open Go.RowKit Mem Bits EvH
set_option linter.unusedSimpArgs false
set_option linter.unusedVariables false
set_option maxRecDepth 100000

set_option maxHeartbeats 4000000 in
theorem refencode_bad (a b c : Int) (k : ByteArray) (hk : k.size ≤ 140737488351232) (sl : Value) (l : List Fld) (hl : ∀ x ∈ l, FldOK x) (hn : l.length ≤ 1000000) (w : World) (hf : FldsAt w sl l) (hb : checkB a b c k l = false) :
    Calls Try.prog 17 #[evV a b c k sl] w fun e w' => e = .returned (.tuple #[.string (encR a b c k l), .int .i64 (checkR a b c k l)]) ∧ Mod w w' [] := by
  have CK := fun w hf => refcheck_calls a b c k hk sl l hl hn w hf
  have e1 : encR a b c k l = ⟨#[]⟩ := by unfold encR; rw [hb]; rfl
  rw [e1]
  rw [checkR_bad hb] at CK ⊢
  have CK' := Lib.hid CK
  have HM0 := Lib.hid ((Mod.refl w []).alloc (.cells #[.int .i64 a, .int .i64 b, .int .i64 c, .string k, sl] 32))
  have HF := Lib.hid hf
  clear CK e1 hb hf hl
  go_enter Try.func17, Try.ntmps17
  go_wp2_with fail
  refine (CK'.out _ (HF.out.mod HM0.out)).mono ?_
  rintro e w1 ⟨rfl, hm1⟩
  go_wp2_with fail
  go_ret2
  exact ⟨rfl, HM0.out.trans0 hm1⟩

set_option maxHeartbeats 4000000 in
theorem refencode_good (a b c : Nat) (k : ByteArray) (sl : Value) (l : List Fld) (hl : ∀ x ∈ l, FldOK x) (w : World) (hf : FldsAt w sl l) (hb : checkB a b c k l = true) :
    Calls Try.prog 17 #[evV a b c k sl] w fun e w' => e = .returned (.tuple #[.string (encR a b c k l), .int .i64 (checkR a b c k l)]) ∧ Mod w w' [] := by
  obtain ⟨pa, pb, pc, pk, pl, pf⟩ := check_parts a b c k l hb
  have CK := fun w hf => refcheck_calls a b c k (by omega) sl l hl (by omega) w hf
  have hsz := encTo_size a b c k l hb
  have e1 : encR a b c k l = encTo a b c k l l.length := by unfold encR; rw [hb]; rfl
  rw [e1]
  rw [checkR_good hb] at CK ⊢
  have CK' := Lib.hid CK
  have NA := Lib.hid (fun w => refnum_calls a (by omega) w)
  have NB := Lib.hid (fun w => refnum_calls b (by omega) w)
  have NC := Lib.hid (fun w => refnum_calls c (by omega) w)
  have NL := Lib.hid (fun w => refnum_calls l.length (by omega) w)
  have TK := Lib.hid (fun w => reftext_calls k (by omega) w)
  have hh : encTo a b c k l 0 = Bt.numS a ++ Bt.numS b ++ Bt.numS c ++ (Bt.numS k.size ++ k) ++ Bt.numS l.length := rfl
  have hst : ∀ i, encTo a b c k l (i + 1) = encTo a b c k l i ++ fieldS (l[i]!) := fun i => rfl
  have za := Bt.numS_size_le a
  have zb := Bt.numS_size_le b
  have zc := Bt.numS_size_le c
  have zl := Bt.numS_size_le l.length
  have zk : (Bt.numS k.size ++ k).size ≤ 25 := by rw [ByteArray.size_append]; have := Bt.numS_size_le k.size; omega
  have hwa : IntKind.u64.wrap (a : Int) = (a : Int) := IntWalk.u64_in _ (by omega)
  have hwb : IntKind.u64.wrap (b : Int) = (b : Int) := IntWalk.u64_in _ (by omega)
  have hwc : IntKind.u64.wrap (c : Int) = (c : Int) := IntWalk.u64_in _ (by omega)
  have hwl : IntKind.u64.wrap (l.length : Int) = (l.length : Int) := IntWalk.u64_in _ (by omega)
  have hb0 := Blk.new w #[.int .i64 (a : Int), .int .i64 (b : Int), .int .i64 (c : Int), .string k, sl] 32
  have hm0 := (Mod.refl w []).alloc (.cells #[.int .i64 (a : Int), .int .i64 (b : Int), .int .i64 (c : Int), .string k, sl] 32)
  have HB0 := Lib.hid hb0
  have HM0 := Lib.hid hm0
  have HF := Lib.hid hf
  generalize Bt.numS a = Sa at *
  generalize Bt.numS b = Sb at *
  generalize Bt.numS c = Sc at *
  generalize Bt.numS l.length = Sl at *
  generalize Bt.numS k.size ++ k = Sk at *
  generalize encTo a b c k l = E at *
  have HH := Lib.hid hh
  have HST := Lib.hid hst
  have HSZ := Lib.hid hsz
  have HPF := Lib.hid pf
  have HL := Lib.hid hl
  have hpl : (l.length : Int) ≤ 8 := by omega
  clear CK e1 hb hf hl hb0 hm0 hh hst hsz pf pa pb pc pk
  rcases HF.out with ⟨hnil, a0, cap, hsl⟩ | ⟨bb, off, cap, hsl, hcap, hrow⟩
  · subst hsl
    subst hnil
    go_enter Try.func17, Try.ntmps17
    go_wp2_with fail
    refine (CK'.out _ (HF.out.mod HM0.out)).mono ?_
    rintro e w1 ⟨rfl, hm1⟩
    have HM1 := Lib.hid (HM0.out.trans0 hm1)
    have HB1 := Lib.hid (HB0.out.mod hm1 (by simp))
    clear hm1
    go_wp2_with fail
    obtain ⟨v0, v1, v2, v3, v4⟩ := BlkA5 HB1.out
    (refine wp_region_quiet_after (by kernel_rfl) (by kernel_rfl) ?_; (repeat (go_big_quiet_step ((first | (with_reducible refine after_of (NA.out _)) | (with_reducible refine after_of (NB.out _)) | (with_reducible refine after_of (NC.out _)) | (with_reducible refine after_of (TK.out _)) | (with_reducible refine after_of (NL.out _)))))); refine wpQuiet_nil ?_; intro wq hw'; obtain ⟨⟨wq2, hmq⟩, hw''⟩ := hw'; subst hw'')
    have HM2 := Lib.hid (HM1.out.trans0 hmq)
    have HB2 := Lib.hid (HB1.out.mod hmq (by simp))
    clear hmq v0 v1 v2 v3 v4
    obtain ⟨c0, c1, c2, c3, c4⟩ := Blk5 HB2.out
    go_wp2_with fail
    go_loop [4, 5] (fun u v => v = .int .i64 0 ∧ u = .string (Sa ++ Sb ++ Sc ++ Sk ++ Sl)) (fun u v => 0)
    case atStart => exact ⟨rfl, rfl⟩
    case round =>
      obtain ⟨rfl, rfl⟩ := hrel
      go_wp2_with fail
      go_ret2
      exact ⟨ret2 (vstr HH.out.symm) rfl, HM2.out⟩
  · subst hsl
    have HROW := Lib.hid hrow
    have H0 := Lib.hid HH.out
    clear hrow
    go_enter Try.func17, Try.ntmps17
    go_wp2_with fail
    refine (CK'.out _ (HF.out.mod HM0.out)).mono ?_
    rintro e w1 ⟨rfl, hm1⟩
    have HM1 := Lib.hid (HM0.out.trans0 hm1)
    have HB1 := Lib.hid (HB0.out.mod hm1 (by simp))
    clear hm1
    go_wp2_with fail
    obtain ⟨v0, v1, v2, v3, v4⟩ := BlkA5 HB1.out
    (refine wp_region_quiet_after (by kernel_rfl) (by kernel_rfl) ?_; (repeat (go_big_quiet_step ((first | (with_reducible refine after_of (NA.out _)) | (with_reducible refine after_of (NB.out _)) | (with_reducible refine after_of (NC.out _)) | (with_reducible refine after_of (TK.out _)) | (with_reducible refine after_of (NL.out _)))))); refine wpQuiet_nil ?_; intro wq hw'; obtain ⟨⟨wq2, hmq⟩, hw''⟩ := hw'; subst hw'')
    have HM2 := Lib.hid (HM1.out.trans0 hmq)
    have HB2 := Lib.hid (HB1.out.mod hmq (by simp))
    clear hmq v0 v1 v2 v3 v4
    obtain ⟨c0, c1, c2, c3, c4⟩ := Blk5 HB2.out
    go_wp2_with fail
    have HRW := Lib.hid ((HROW.out.mod HM2.out))
    generalize hW : wq = W at *
    have HWQ := Lib.hid hW
    clear hW
    go_loopw [4, 5] (fun u v wr => ∃ i : Nat, i ≤ l.length ∧ v = .int .i64 (i : Int) ∧ u = .string (E i) ∧ Mod W wr []) (fun _ v _ => l.length + 1 - (intOf v).toNat)
    case atStart => exact ⟨0, by omega, rfl, by rw [H0.out], Mod.refl _ _⟩
    case round =>
      obtain ⟨i, hi, rfl, rfl, hm⟩ := hrel
      have HM := Lib.hid hm
      have HBW := Lib.hid (HB2.out.mod hm (by simp))
      obtain ⟨b0, b1, b2, b3, b4⟩ := Blk5 HBW.out
      clear b0 b1 b2 b3
      by_cases hlt : i < l.length
      · have hlt' : (i : Int) < l.length := by omega
        have hi0 : 0 ≤ (i : Int) := by omega
        have hcs := HRW.out.mod hm i hlt
        have hle : (l[i]'hlt).name.size ≤ 16 ∧ (l[i]'hlt).v.s.size ≤ 64 ∧ (1 ≤ (l[i]'hlt).v.k ∧ (l[i]'hlt).v.k ≤ 3) := by
          have h1 := fields_at l HPF.out i hlt
          have h2 := mayB_facts _ _ _ _ h1.2
          exact ⟨wordB_size _ h1.1, h2.2.2, h2.1, h2.2.1⟩
        have hok := HL.out _ (List.getElem_mem hlt)
        have hsti : E (i + 1) = E i ++ (textS (l[i]'hlt).name ++ (Bt.numS (l[i]'hlt).v.k.toNat ++ payS (l[i]'hlt).v.k (l[i]'hlt).v.n (l[i]'hlt).v.f (l[i]'hlt).v.s)) := by
          rw [HST.out i, getElem!_pos l i hlt]; rfl
        obtain ⟨x, hx⟩ : ∃ x, (l[i]'hlt) = x := ⟨_, rfl⟩
        rw [hx] at hcs hle hok hsti
        obtain ⟨nm, k0, n0, f0, s0⟩ := x
        simp only at hcs hle hok hsti
        have hpz := payS_size k0 n0 f0 s0
        have TC := Lib.hid (fun w => reftext_calls nm (by have := hle.1; omega) w)
        have KC := Lib.hid (fun w => refnum_calls k0.toNat (by have := hle.2.2; omega) w)
        have IC := Lib.hid (fun w => refint_calls n0 hok.n1 hok.n2 w)
        have RC := Lib.hid (fun w => refreal_calls f0 hok.f w)
        have SC := Lib.hid (fun w => reftext_calls s0 (by have := hle.2.1; omega) w)
        have zk := Bt.numS_size_le k0.toNat
        have zt : (Bt.numS nm.size ++ nm).size ≤ 25 := by rw [ByteArray.size_append]; have := Bt.numS_size_le nm.size; have := hle.1; omega
        have zp : (payS k0 n0 f0 s0).size ≤ 73 := by have := hle.2.1; omega
        have hez := HSZ.out i (by omega)
        have e : textS nm = Bt.numS nm.size ++ nm := rfl
        rw [e] at hsti
        have ep : payS k0 n0 f0 s0 = if k0 = 1 then Bt.numS (fold n0) else if k0 = 2 then realS f0 else Bt.numS s0.size ++ s0 := rfl
        generalize Bt.numS nm.size ++ nm = T at *
        generalize Bt.numS s0.size ++ s0 = TS at *
        generalize Bt.numS (fold n0) = TI at *
        generalize realS f0 = TR at *
        generalize payS k0 n0 f0 s0 = PS at *
        obtain ⟨c0, c1, c2, c3, c4⟩ := hcs
        have hkc := hle.2.2
        have hok2 := hok.k2
        have HSTI := Lib.hid hsti
        have HV := Lib.hid (Blk.new wr #[.int .i64 k0, .int .i64 n0, .float .f64 f0, .string s0] 45)
        have HMV := Lib.hid (hm.alloc (.cells #[.int .i64 k0, .int .i64 n0, .float .f64 f0, .string s0] 45))
        have HBV := Lib.hid (HBW.out.alloc (.cells #[.int .i64 k0, .int .i64 n0, .float .f64 f0, .string s0] 45))
        have HP := Lib.hid ((HRW.out.mod hm i hlt).mod ((Mod.refl wr []).alloc (.cells #[.int .i64 k0, .int .i64 n0, .float .f64 f0, .string s0] 45)))
        rw [hx] at HP
        generalize E i = Ei at *
        have z4 : Ei.size ≤ 2000 := by omega
        clear hm hsti hx hle hok hez e hpz
        rcases (by omega : k0 = 1 ∨ k0 = 2 ∨ k0 = 3) with rfl | rfl | rfl
        all_goals
          simp only [Int.reduceEq, if_true, if_false] at ep
          subst ep
        · rw [show Int.toNat 1 = 1 from rfl] at *
          generalize Bt.numS 1 = NK at *
          have hwk : IntKind.u64.wrap (1 : Int) = (1 : Int) := by decide
          go_wp2_with fail
          generalize wr.alloc _ = W2 at HV HMV HBV HP ⊢
          obtain ⟨v0, v1, v2, v3⟩ := BlkA HV.out
          obtain ⟨_, _, _, _, w4⟩ := BlkA5 HBV.out
          obtain ⟨p0, p1, p2, p3, p4⟩ := Cells5.after HP.out
          (refine wp_region_quiet_after (by kernel_rfl) (by kernel_rfl) ?_; (repeat (go_big_quiet_step ((first | (with_reducible refine after_of (TC.out _)) | (with_reducible refine after_of (KC.out _)))))); refine wpQuiet_nil ?_; intro wq hw'; obtain ⟨⟨wq2, hmq⟩, hw''⟩ := hw'; subst hw'')
          have M3 := Lib.hid (HMV.out.trans0 hmq)
          have HV3 := Lib.hid (HV.out.mod hmq (by simp))
          clear v0 v1 v2 v3 w4 p0 p1 p2 p3 p4 hmq
          obtain ⟨d0, d1, d2, d3⟩ := Blk4 HV3.out
          have z5 : (Ei ++ T ++ NK).size ≤ 2100 := by rw [ByteArray.size_append, ByteArray.size_append]; omega
          go_wp2_with fail
          refine (IC.out _).mono ?_
          rintro e w5 ⟨rfl, hm5⟩
          go_wp2_with fail
          go_roundw
          case rel => exact ⟨i + 1, by omega, by go_num, by rw [HSTI.out]; simp only [ByteArray.append_assoc], M3.out.trans0 hm5⟩
          case measure => simp [intOf]; omega
        · rw [show Int.toNat 2 = 2 from rfl] at *
          generalize Bt.numS 2 = NK at *
          have hwk : IntKind.u64.wrap (2 : Int) = (2 : Int) := by decide
          go_wp2_with fail
          generalize wr.alloc _ = W2 at HV HMV HBV HP ⊢
          obtain ⟨v0, v1, v2, v3⟩ := BlkA HV.out
          obtain ⟨_, _, _, _, w4⟩ := BlkA5 HBV.out
          obtain ⟨p0, p1, p2, p3, p4⟩ := Cells5.after HP.out
          (refine wp_region_quiet_after (by kernel_rfl) (by kernel_rfl) ?_; (repeat (go_big_quiet_step ((first | (with_reducible refine after_of (TC.out _)) | (with_reducible refine after_of (KC.out _)))))); refine wpQuiet_nil ?_; intro wq hw'; obtain ⟨⟨wq2, hmq⟩, hw''⟩ := hw'; subst hw'')
          have M3 := Lib.hid (HMV.out.trans0 hmq)
          have HV3 := Lib.hid (HV.out.mod hmq (by simp))
          clear v0 v1 v2 v3 w4 p0 p1 p2 p3 p4 hmq
          obtain ⟨d0, d1, d2, d3⟩ := Blk4 HV3.out
          have z5 : (Ei ++ T ++ NK).size ≤ 2100 := by rw [ByteArray.size_append, ByteArray.size_append]; omega
          go_wp2_with fail
          refine (RC.out _).mono ?_
          rintro e w5 ⟨rfl, hm5⟩
          go_wp2_with fail
          go_roundw
          case rel => exact ⟨i + 1, by omega, by go_num, by rw [HSTI.out]; simp only [ByteArray.append_assoc], M3.out.trans0 hm5⟩
          case measure => simp [intOf]; omega
        · rw [show Int.toNat 3 = 3 from rfl] at *
          generalize Bt.numS 3 = NK at *
          have hwk : IntKind.u64.wrap (3 : Int) = (3 : Int) := by decide
          go_wp2_with fail
          generalize wr.alloc _ = W2 at HV HMV HBV HP ⊢
          obtain ⟨v0, v1, v2, v3⟩ := BlkA HV.out
          obtain ⟨_, _, _, _, w4⟩ := BlkA5 HBV.out
          obtain ⟨p0, p1, p2, p3, p4⟩ := Cells5.after HP.out
          (refine wp_region_quiet_after (by kernel_rfl) (by kernel_rfl) ?_; (repeat (go_big_quiet_step ((first | (with_reducible refine after_of (TC.out _)) | (with_reducible refine after_of (KC.out _)))))); refine wpQuiet_nil ?_; intro wq hw'; obtain ⟨⟨wq2, hmq⟩, hw''⟩ := hw'; subst hw'')
          have M3 := Lib.hid (HMV.out.trans0 hmq)
          have HV3 := Lib.hid (HV.out.mod hmq (by simp))
          clear v0 v1 v2 v3 w4 p0 p1 p2 p3 p4 hmq
          obtain ⟨d0, d1, d2, d3⟩ := Blk4 HV3.out
          have z5 : (Ei ++ T ++ NK).size ≤ 2100 := by rw [ByteArray.size_append, ByteArray.size_append]; omega
          go_wp2_with fail
          refine (SC.out _).mono ?_
          rintro e w5 ⟨rfl, hm5⟩
          go_wp2_with fail
          go_roundw
          case rel => exact ⟨i + 1, by omega, by go_num, by rw [HSTI.out]; simp only [ByteArray.append_assoc], M3.out.trans0 hm5⟩
          case measure => simp [intOf]; omega
      · obtain rfl : i = l.length := by omega
        go_wp2_with fail
        go_ret2
        exact ⟨rfl, HM2.out.trans0 HM.out⟩

/-- The contract of Encode. -/
theorem refencode_calls (a b c : Int) (k : ByteArray) (hk : k.size ≤ 140737488351232) (sl : Value) (l : List Fld) (hl : ∀ x ∈ l, FldOK x) (hn : l.length ≤ 1000000) (w : World) (hf : FldsAt w sl l) :
    Calls Try.prog 17 #[evV a b c k sl] w fun e w' => e = .returned (.tuple #[.string (encR a b c k l), .int .i64 (checkR a b c k l)]) ∧ Mod w w' [] := by
  cases hb : checkB a b c k l
  · exact refencode_bad a b c k hk sl l hl hn w hf hb
  · obtain ⟨pa, pb, pc, _, _, _⟩ := check_parts a b c k l hb
    obtain ⟨a, rfl⟩ := Int.eq_ofNat_of_zero_le pa.1
    obtain ⟨b, rfl⟩ := Int.eq_ofNat_of_zero_le pb.1
    obtain ⟨c, rfl⟩ := Int.eq_ofNat_of_zero_le pc.1
    exact refencode_good a b c k sl l hl w hf hb
end Go.Proofs.Ytdmipmkgoefidaa.Ev
