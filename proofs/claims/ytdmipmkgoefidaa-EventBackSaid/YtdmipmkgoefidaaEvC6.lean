/- The contract of Encode. -/
import Derived.Test.YtdmipmkgoefidaaEvC5
namespace Go.Proofs.Ytdmipmkgoefidaa.Ev
open Go.RowKit Mem Bits EvH
set_option linter.unusedSimpArgs false
set_option linter.unusedVariables false
set_option maxRecDepth 100000

def encR (a b c : Int) (k : ByteArray) (l : List Fld) : ByteArray := if checkB a b c k l then encTo a b c k l l.length else ⟨#[]⟩

set_option maxHeartbeats 4000000 in
theorem encode_bad (a b c : Int) (k : ByteArray) (hk : k.size ≤ 140737488351232) (sl : Value) (l : List Fld) (hl : ∀ x ∈ l, FldOK x) (hn : l.length ≤ 1000000) (w : World) (hf : FldsAt w sl l) (hb : checkB a b c k l = false) :
    Calls Try.prog 16 #[evV a b c k sl] w fun e w' => e = .returned (.tuple #[.string (encR a b c k l), .int .i64 (checkR a b c k l)]) ∧ Mod w w' [] := by
  have CK := fun w hf => check_calls a b c k hk sl l hl hn w hf
  have e1 : encR a b c k l = ⟨#[]⟩ := by unfold encR; rw [hb]; rfl
  rw [e1]
  rw [checkR_bad hb] at CK ⊢
  have CK' := Lib.hid CK
  have HM0 := Lib.hid ((Mod.refl w []).alloc (.cells #[.int .i64 a, .int .i64 b, .int .i64 c, .string k, sl] 24))
  have HF := Lib.hid hf
  clear CK e1 hb hf hl
  go_enter Try.func16, Try.ntmps16
  go_wp2_with fail
  refine (CK'.out _ (HF.out.mod HM0.out)).mono ?_
  rintro e w1 ⟨rfl, hm1⟩
  go_wp2_with fail
  go_ret2
  exact ⟨rfl, HM0.out.trans0 hm1⟩

set_option maxHeartbeats 4000000 in
theorem encode_good (a b c : Nat) (k : ByteArray) (sl : Value) (l : List Fld) (hl : ∀ x ∈ l, FldOK x) (w : World) (hf : FldsAt w sl l) (hb : checkB a b c k l = true) :
    Calls Try.prog 16 #[evV a b c k sl] w fun e w' => e = .returned (.tuple #[.string (encR a b c k l), .int .i64 (checkR a b c k l)]) ∧ Mod w w' [] := by
  obtain ⟨pa, pb, pc, pk, pl, pf⟩ := check_parts a b c k l hb
  have CK := fun w hf => check_calls a b c k (by omega) sl l hl (by omega) w hf
  have hsz := encTo_size a b c k l hb
  have e1 : encR a b c k l = encTo a b c k l l.length := by unfold encR; rw [hb]; rfl
  rw [e1]
  rw [checkR_good hb] at CK ⊢
  have CK' := Lib.hid CK
  have NA := Lib.hid (fun w => num_calls a (by omega) w)
  have NB := Lib.hid (fun w => num_calls b (by omega) w)
  have NC := Lib.hid (fun w => num_calls c (by omega) w)
  have NL := Lib.hid (fun w => num_calls l.length (by omega) w)
  have TK := Lib.hid (fun w => text_calls k (by omega) w)
  have hh : encTo a b c k l 0 = Bt.numS a ++ Bt.numS b ++ Bt.numS c ++ (Bt.numS k.size ++ k) ++ Bt.numS l.length := rfl
  have hst : ∀ i, encTo a b c k l (i + 1) = encTo a b c k l i ++ fieldS (l[i]!) := fun i => rfl
  have za := Bt.numS_size_le a
  have zb := Bt.numS_size_le b
  have zc := Bt.numS_size_le c
  have zl := Bt.numS_size_le l.length
  have zk : (Bt.numS k.size ++ k).size ≤ 25 := by rw [ByteArray.size_append]; have := Bt.numS_size_le k.size; omega
  have hwa : IntKind.u64.wrap (a : Int) = (a : Int) := IntWalk.u64_in _ (by omega)
  have hwb : IntKind.u64.wrap (b : Int) = (b : Int) := IntWalk.u64_in _ (by omega)
  have hwc : IntKind.u64.wrap (c : Int) = (c : Int) := IntWalk.u64_in _ (by omega)
  have hwl : IntKind.u64.wrap (l.length : Int) = (l.length : Int) := IntWalk.u64_in _ (by omega)
  have hb0 := Blk.new w #[.int .i64 (a : Int), .int .i64 (b : Int), .int .i64 (c : Int), .string k, sl] 24
  have hm0 := (Mod.refl w []).alloc (.cells #[.int .i64 (a : Int), .int .i64 (b : Int), .int .i64 (c : Int), .string k, sl] 24)
  have HB0 := Lib.hid hb0
  have HM0 := Lib.hid hm0
  have HF := Lib.hid hf
  generalize Bt.numS a = Sa at *
  generalize Bt.numS b = Sb at *
  generalize Bt.numS c = Sc at *
  generalize Bt.numS l.length = Sl at *
  generalize Bt.numS k.size ++ k = Sk at *
  generalize encTo a b c k l = E at *
  have HH := Lib.hid hh
  have HST := Lib.hid hst
  have HSZ := Lib.hid hsz
  have HPF := Lib.hid pf
  have HL := Lib.hid hl
  have hpl : (l.length : Int) ≤ 8 := by omega
  clear CK e1 hb hf hl hb0 hm0 hh hst hsz pf pa pb pc pk
  rcases HF.out with ⟨hnil, a0, cap, hsl⟩ | ⟨bb, off, cap, hsl, hcap, hrow⟩
  · subst hsl
    subst hnil
    go_enter Try.func16, Try.ntmps16
    go_wp2_with fail
    refine (CK'.out _ (HF.out.mod HM0.out)).mono ?_
    rintro e w1 ⟨rfl, hm1⟩
    have HM1 := Lib.hid (HM0.out.trans0 hm1)
    have HB1 := Lib.hid (HB0.out.mod hm1 (by simp))
    clear hm1
    go_wp2_with fail
    obtain ⟨v0, v1, v2, v3, v4⟩ := BlkA5 HB1.out
    (refine wp_region_quiet_after (by kernel_rfl) (by kernel_rfl) ?_; (repeat (go_big_quiet_step ((first | (with_reducible refine after_of (NA.out _)) | (with_reducible refine after_of (NB.out _)) | (with_reducible refine after_of (NC.out _)) | (with_reducible refine after_of (TK.out _)) | (with_reducible refine after_of (NL.out _)))))); refine wpQuiet_nil ?_; intro wq hw'; obtain ⟨⟨wq2, hmq⟩, hw''⟩ := hw'; subst hw'')
    have HM2 := Lib.hid (HM1.out.trans0 hmq)
    have HB2 := Lib.hid (HB1.out.mod hmq (by simp))
    clear hmq v0 v1 v2 v3 v4
    obtain ⟨c0, c1, c2, c3, c4⟩ := Blk5 HB2.out
    go_wp2_with fail
    go_loop [5, 40] (fun u v => v = .int .i64 0 ∧ u = .string (Sa ++ Sb ++ Sc ++ Sk ++ Sl)) (fun u v => 0)
    case atStart => exact ⟨rfl, rfl⟩
    case round =>
      obtain ⟨rfl, rfl⟩ := hrel
      go_wp2_with fail
      go_ret2
      exact ⟨ret2 (vstr HH.out.symm) rfl, HM2.out⟩
  · subst hsl
    have HROW := Lib.hid hrow
    have H0 := Lib.hid HH.out
    clear hrow
    go_enter Try.func16, Try.ntmps16
    go_wp2_with fail
    refine (CK'.out _ (HF.out.mod HM0.out)).mono ?_
    rintro e w1 ⟨rfl, hm1⟩
    have HM1 := Lib.hid (HM0.out.trans0 hm1)
    have HB1 := Lib.hid (HB0.out.mod hm1 (by simp))
    clear hm1
    go_wp2_with fail
    obtain ⟨v0, v1, v2, v3, v4⟩ := BlkA5 HB1.out
    (refine wp_region_quiet_after (by kernel_rfl) (by kernel_rfl) ?_; (repeat (go_big_quiet_step ((first | (with_reducible refine after_of (NA.out _)) | (with_reducible refine after_of (NB.out _)) | (with_reducible refine after_of (NC.out _)) | (with_reducible refine after_of (TK.out _)) | (with_reducible refine after_of (NL.out _)))))); refine wpQuiet_nil ?_; intro wq hw'; obtain ⟨⟨wq2, hmq⟩, hw''⟩ := hw'; subst hw'')
    have HM2 := Lib.hid (HM1.out.trans0 hmq)
    have HB2 := Lib.hid (HB1.out.mod hmq (by simp))
    clear hmq v0 v1 v2 v3 v4
    obtain ⟨c0, c1, c2, c3, c4⟩ := Blk5 HB2.out
    go_wp2_with fail
    have HRW := Lib.hid ((HROW.out.mod HM2.out))
    generalize hW : wq = W at *
    have HWQ := Lib.hid hW
    clear hW
    go_loopw [5, 40] (fun u v wr => ∃ i : Nat, i ≤ l.length ∧ v = .int .i64 (i : Int) ∧ u = .string (E i) ∧ Mod W wr []) (fun _ v _ => l.length + 1 - (intOf v).toNat)
    case atStart => exact ⟨0, by omega, rfl, by rw [H0.out], Mod.refl _ _⟩
    case round =>
      obtain ⟨i, hi, rfl, rfl, hm⟩ := hrel
      have HM := Lib.hid hm
      by_cases hlt : i < l.length
      · have hlt' : (i : Int) < l.length := by omega
        have hcs := HRW.out.mod hm i hlt
        have hle : (l[i]'hlt).name.size ≤ 16 ∧ (l[i]'hlt).v.s.size ≤ 64 ∧ (1 ≤ (l[i]'hlt).v.k ∧ (l[i]'hlt).v.k ≤ 3) := by
          have h1 := fields_at l HPF.out i hlt
          have h2 := mayB_facts _ _ _ _ h1.2
          exact ⟨wordB_size _ h1.1, h2.2.2, h2.1, h2.2.1⟩
        have hok := HL.out _ (List.getElem_mem hlt)
        have hsti : E (i + 1) = E i ++ (textS (l[i]'hlt).name ++ valueS (l[i]'hlt).v.k (l[i]'hlt).v.n (l[i]'hlt).v.f (l[i]'hlt).v.s) := by
          rw [HST.out i, getElem!_pos l i hlt]; rfl
        have hfz := fieldS_size (l[i]'hlt)
        obtain ⟨x, hx⟩ : ∃ x, (l[i]'hlt) = x := ⟨_, rfl⟩
        rw [hx] at hcs hle hok hsti hfz
        obtain ⟨c0, c1, c2, c3, c4⟩ := hcs
        have TC := Lib.hid (fun w => text_calls x.name (by have := hle.1; omega) w)
        have VC := Lib.hid (fun w => value_calls x.v.k x.v.n x.v.f x.v.s hle.2.2 hok.n1 hok.n2 hok.f hok.s w)
        have HV := Lib.hid (Blk.new wr #[.string x.name, .int .i64 x.v.k, .int .i64 x.v.n, .float .f64 x.v.f, .string x.v.s] 60)
        have HMV := Lib.hid (hm.alloc (.cells #[.string x.name, .int .i64 x.v.k, .int .i64 x.v.n, .float .f64 x.v.f, .string x.v.s] 60))
        have hez := HSZ.out i (by omega)
        have hf2 : (Bt.numS x.name.size ++ x.name).size + (valueS x.v.k x.v.n x.v.f x.v.s).size ≤ 107 := by
          have := hfz
          unfold fieldS at this
          rw [ByteArray.size_append] at this
          have e : textS x.name = Bt.numS x.name.size ++ x.name := rfl
          rw [e] at this
          have := hle.1
          have := hle.2.1
          omega
        have e : textS x.name = Bt.numS x.name.size ++ x.name := rfl
        rw [e] at hsti
        generalize Bt.numS x.name.size ++ x.name = T at *
        generalize valueS x.v.k x.v.n x.v.f x.v.s = VS at *
        have z1 : T.size ≤ 107 := by omega
        have z2 : VS.size ≤ 107 := by omega
        have z3 : (T ++ VS).size ≤ 107 := by rw [ByteArray.size_append]; omega
        have HSTI := Lib.hid hsti
        generalize E i = Ei at *
        have z4 : Ei.size ≤ 2000 := by omega
        clear hm hsti hx hle hok hfz hez hf2 e
        go_wp2_with fail
        generalize wr.alloc _ = W2 at HV HMV ⊢
        obtain ⟨v0, v1, v2, v3, v4⟩ := BlkA5 HV.out
        (refine wp_region_quiet_after (by kernel_rfl) (by kernel_rfl) ?_; (repeat (go_big_quiet_step ((first | (with_reducible refine after_of (TC.out _)) | (with_reducible refine after_of (VC.out _)))))); refine wpQuiet_nil ?_; intro wq hw'; obtain ⟨⟨wq2, hmq⟩, hw''⟩ := hw'; subst hw'')
        have M3 := Lib.hid (HMV.out.trans0 hmq)
        clear v0 v1 v2 v3 v4 hmq
        go_wp2_with fail
        go_roundw
        case rel => exact ⟨i + 1, by omega, by go_num, by rw [HSTI.out], M3.out⟩
        case measure => simp [intOf]; omega
      · obtain rfl : i = l.length := by omega
        go_wp2_with fail
        go_ret2
        exact ⟨rfl, HM2.out.trans0 HM.out⟩

/-- The contract of Encode. -/
theorem encode_calls (a b c : Int) (k : ByteArray) (hk : k.size ≤ 140737488351232) (sl : Value) (l : List Fld) (hl : ∀ x ∈ l, FldOK x) (hn : l.length ≤ 1000000) (w : World) (hf : FldsAt w sl l) :
    Calls Try.prog 16 #[evV a b c k sl] w fun e w' => e = .returned (.tuple #[.string (encR a b c k l), .int .i64 (checkR a b c k l)]) ∧ Mod w w' [] := by
  cases hb : checkB a b c k l
  · exact encode_bad a b c k hk sl l hl hn w hf hb
  · obtain ⟨pa, pb, pc, _, _, _⟩ := check_parts a b c k l hb
    obtain ⟨a, rfl⟩ := Int.eq_ofNat_of_zero_le pa.1
    obtain ⟨b, rfl⟩ := Int.eq_ofNat_of_zero_le pb.1
    obtain ⟨c, rfl⟩ := Int.eq_ofNat_of_zero_le pc.1
    exact encode_good a b c k sl l hl w hf hb
end Go.Proofs.Ytdmipmkgoefidaa.Ev
