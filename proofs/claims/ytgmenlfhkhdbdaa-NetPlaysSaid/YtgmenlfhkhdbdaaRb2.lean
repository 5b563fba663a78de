/- Which messages may be: the reference's Check. (Printed by mkRb2.py.) -/
import Derived.Test.YtgmenlfhkhdbdaaRb1
import Derived.Deep.DeepCutAuto
namespace Go.Proofs.Ytgmenlfhkhdbdaa.Ra
open Go.RowKit Mem Bits
set_option linter.unusedSimpArgs false
set_option linter.unusedVariables false
set_option maxRecDepth 100000

theorem fields_ref (kind : Int) (p l c y e n : Bool) (hk : 1 ≤ kind ∧ kind ≤ 5) :
    fldB kind (p || l) (!l) c y e (!n) = (!((y && (kind != 2 && kind != 4)) || ((p && (kind == 2 || kind == 5)) || (l && (kind != 1 && kind != 3)))) && (!((c || e) && kind != 3) && (kind == 5 || n))) := by
  rcases (by omega : kind = 1 ∨ kind = 2 ∨ kind = 3 ∨ kind = 4 ∨ kind = 5) with rfl | rfl | rfl | rfl | rfl <;> revert p l c y e n <;> decide
theorem check_iff {m : Ms} : checkB m = true ↔ (inB m.frm 0 6 = true ∧ inB m.dst 0 6 = true ∧ m.frm ≠ m.dst ∧ ixB m.term = true ∧ ixB m.index = true ∧ ixB m.lt = true ∧ ixB m.commit = true ∧ m.es.length ≤ 16 ∧ snB m.si m.st m.sm m.sx = true ∧ fieldsB m = true ∧ m.es.all enB = true) := by
  unfold checkB
  simp only [Bool.and_eq_true, List.all_cons, List.all_nil, Bool.and_true, Bool.not_eq_true', decide_eq_false_iff_not, Bool.and_assoc, beq_eq_false_iff_ne, Nat.not_lt, ne_eq, and_assoc]
set_option maxHeartbeats 32000000 in
theorem rcheck_calls (m : Ms) (v : Value) (w : World) (hv : EnsV w v m.es) (hn : m.es.length ≤ 100000) : Calls Try.prog 33 #[msV m v] w fun e w' => e = .returned (.bool (checkB m)) ∧ Mod w w' [] := by
  have HFB := Lib.hid (check_iff (m := m))
  have HFK := Lib.hid (fun h => fieldsB_kind (m := m) h)
  have HFF : Hid (1 ≤ m.kind ∧ m.kind ≤ 5 → fieldsB m = (!((m.yes && (m.kind != 2 && m.kind != 4)) || ((m.index != 0 && (m.kind == 2 || m.kind == 5)) || (m.lt != 0 && (m.kind != 1 && m.kind != 3)))) && (!((m.commit != 0 || decide (0 < m.es.length)) && m.kind != 3) && (m.kind == 5 || noSn m.si m.st m.sm m.sx)))) := Lib.hid (fun hk => by
    have := fields_ref m.kind (m.index != 0) (m.lt != 0) (m.commit != 0) m.yes (decide (0 < m.es.length)) (noSn m.si m.st m.sm m.sx) hk
    rw [← this]
    unfold fieldsB
    congr 1
    cases h : (m.lt == 0) <;> simp [bne, h])
  generalize checkB m = FB at *
  generalize fieldsB m = F5 at *
  have HV := Lib.hid hv
  obtain ⟨ad, cap, rfl, hcap, _⟩ := hv
  obtain ⟨kind, frm, dst, term, index, lt, commit, yes, es, si, st, sm, sx⟩ := m
  simp only at hn HFB HFK HFF HV hcap
  show Calls _ _ #[.agg #[.int .i64 kind, .int .i64 frm, .int .i64 dst, .int .i64 term, .int .i64 index, .int .i64 lt, .int .i64 commit, .bool yes, .slice ad es.length cap, .int .i64 si, .int .i64 st, .int .i64 sm, .string sx]] _ _
  have HM := Lib.hid ((Mod.refl w []).alloc (.cells #[.int .i64 kind, .int .i64 frm, .int .i64 dst, .int .i64 term, .int .i64 index, .int .i64 lt, .int .i64 commit, .bool yes, .slice ad es.length cap, .int .i64 si, .int .i64 st, .int .i64 sm, .string sx] 88))
  have HB := Lib.hid (Blk.new w #[.int .i64 kind, .int .i64 frm, .int .i64 dst, .int .i64 term, .int .i64 index, .int .i64 lt, .int .i64 commit, .bool yes, .slice ad es.length cap, .int .i64 si, .int .i64 st, .int .i64 sm, .string sx] 88)
  have I1 := Lib.hid (fun w => rin_calls frm 6 w)
  have I2 := Lib.hid (fun w => rin_calls dst 6 w)
  have X1 : Hid (∀ w, Calls Try.prog 76 #[.int .i64 term, .int .i64 549755813888] w fun e w' => e = .returned (.bool (ixB term)) ∧ w = w') := Lib.hid (fun w => rin_calls term 549755813888 w)
  have X2 : Hid (∀ w, Calls Try.prog 76 #[.int .i64 index, .int .i64 549755813888] w fun e w' => e = .returned (.bool (ixB index)) ∧ w = w') := Lib.hid (fun w => rin_calls index 549755813888 w)
  have X3 : Hid (∀ w, Calls Try.prog 76 #[.int .i64 lt, .int .i64 549755813888] w fun e w' => e = .returned (.bool (ixB lt)) ∧ w = w') := Lib.hid (fun w => rin_calls lt 549755813888 w)
  have X4 : Hid (∀ w, Calls Try.prog 76 #[.int .i64 commit, .int .i64 549755813888] w fun e w' => e = .returned (.bool (ixB commit)) ∧ w = w') := Lib.hid (fun w => rin_calls commit 549755813888 w)
  have SC := Lib.hid (fun w => rsnap_calls si st sm sx w)
  generalize inB frm 0 6 = A1 at *
  generalize inB dst 0 6 = A2 at *
  generalize ixB term = A3 at *
  generalize ixB index = A4 at *
  generalize ixB lt = A5 at *
  generalize ixB commit = A6 at *
  generalize snB si st sm sx = A7 at *
  by_cases hk1 : kind < 1
  · have hr := Lib.hid (show false = FB from by cases hF : FB; rfl; obtain ⟨f1, f2, f3, f4, f5, f6, f7, f8, f9, f10, f11⟩ := HFB.out.1 hF; have := HFK.out f10; omega)
    clear HFB HFK HFF
    go_enter Try.func33, Try.ntmps33
    go_wp2_with fail
    go_ret
    exact ⟨ret_bool hr.out, HM.out⟩
  by_cases hk5 : 5 < kind
  · have hr := Lib.hid (show false = FB from by cases hF : FB; rfl; obtain ⟨f1, f2, f3, f4, f5, f6, f7, f8, f9, f10, f11⟩ := HFB.out.1 hF; have := HFK.out f10; omega)
    clear HFB HFK HFF
    go_enter Try.func33, Try.ntmps33
    go_wp2_with fail
    go_ret
    exact ⟨ret_bool hr.out, HM.out⟩
  have hk5' : ¬ kind > 5 := hk5
  cases A1
  · have hr := Lib.hid (show false = FB from by cases hF : FB; rfl; obtain ⟨f1, f2, f3, f4, f5, f6, f7, f8, f9, f10, f11⟩ := HFB.out.1 hF; cases f1)
    clear HFB HFK HFF
    go_enter Try.func33, Try.ntmps33
    go_wp2_with fail
    (with_reducible refine (I1.out _).mono ?_)
    rintro e w1 ⟨rfl, rfl⟩
    go_wp2_with fail
    go_ret
    exact ⟨ret_bool hr.out, HM.out⟩
  · cases A2
    · have hr := Lib.hid (show false = FB from by cases hF : FB; rfl; obtain ⟨f1, f2, f3, f4, f5, f6, f7, f8, f9, f10, f11⟩ := HFB.out.1 hF; cases f2)
      clear HFB HFK HFF
      go_enter Try.func33, Try.ntmps33
      go_wp2_with fail
      (with_reducible refine (I1.out _).mono ?_)
      rintro e w1 ⟨rfl, rfl⟩
      go_wp2_with fail
      (with_reducible refine (I2.out _).mono ?_)
      rintro e w1 ⟨rfl, rfl⟩
      go_wp2_with fail
      go_ret
      exact ⟨ret_bool hr.out, HM.out⟩
    · by_cases hq : frm = dst
      · have hr := Lib.hid (show false = FB from by cases hF : FB; rfl; obtain ⟨f1, f2, f3, f4, f5, f6, f7, f8, f9, f10, f11⟩ := HFB.out.1 hF; exact absurd hq f3)
        clear HFB HFK HFF
        subst hq
        go_enter Try.func33, Try.ntmps33
        go_wp2_with fail
        (with_reducible refine (I1.out _).mono ?_)
        rintro e w1 ⟨rfl, rfl⟩
        go_wp2_with fail
        (with_reducible refine (I2.out _).mono ?_)
        rintro e w1 ⟨rfl, rfl⟩
        go_wp2_with fail
        go_ret
        exact ⟨ret_bool hr.out, HM.out⟩
      have hqb : (frm == dst) = false := by simpa using hq
      cases A3
      · have hr := Lib.hid (show false = FB from by cases hF : FB; rfl; obtain ⟨f1, f2, f3, f4, f5, f6, f7, f8, f9, f10, f11⟩ := HFB.out.1 hF; cases f4)
        clear HFB HFK HFF
        go_enter Try.func33, Try.ntmps33
        go_wp2_with fail
        (with_reducible refine (I1.out _).mono ?_)
        rintro e w1 ⟨rfl, rfl⟩
        go_wp2_with fail
        (with_reducible refine (I2.out _).mono ?_)
        rintro e w1 ⟨rfl, rfl⟩
        go_wp2_with fail
        (with_reducible refine (X1.out _).mono ?_)
        rintro e w1 ⟨rfl, rfl⟩
        go_wp2_with fail
        go_ret
        exact ⟨ret_bool hr.out, HM.out⟩
      · cases A4
        · have hr := Lib.hid (show false = FB from by cases hF : FB; rfl; obtain ⟨f1, f2, f3, f4, f5, f6, f7, f8, f9, f10, f11⟩ := HFB.out.1 hF; cases f5)
          clear HFB HFK HFF
          go_enter Try.func33, Try.ntmps33
          go_wp2_with fail
          (with_reducible refine (I1.out _).mono ?_)
          rintro e w1 ⟨rfl, rfl⟩
          go_wp2_with fail
          (with_reducible refine (I2.out _).mono ?_)
          rintro e w1 ⟨rfl, rfl⟩
          go_wp2_with fail
          (with_reducible refine (X1.out _).mono ?_)
          rintro e w1 ⟨rfl, rfl⟩
          go_wp2_with fail
          (with_reducible refine (X2.out _).mono ?_)
          rintro e w1 ⟨rfl, rfl⟩
          go_wp2_with fail
          go_ret
          exact ⟨ret_bool hr.out, HM.out⟩
        · cases A5
          · have hr := Lib.hid (show false = FB from by cases hF : FB; rfl; obtain ⟨f1, f2, f3, f4, f5, f6, f7, f8, f9, f10, f11⟩ := HFB.out.1 hF; cases f6)
            clear HFB HFK HFF
            go_enter Try.func33, Try.ntmps33
            go_wp2_with fail
            (with_reducible refine (I1.out _).mono ?_)
            rintro e w1 ⟨rfl, rfl⟩
            go_wp2_with fail
            (with_reducible refine (I2.out _).mono ?_)
            rintro e w1 ⟨rfl, rfl⟩
            go_wp2_with fail
            (with_reducible refine (X1.out _).mono ?_)
            rintro e w1 ⟨rfl, rfl⟩
            go_wp2_with fail
            (with_reducible refine (X2.out _).mono ?_)
            rintro e w1 ⟨rfl, rfl⟩
            go_wp2_with fail
            (with_reducible refine (X3.out _).mono ?_)
            rintro e w1 ⟨rfl, rfl⟩
            go_wp2_with fail
            go_ret
            exact ⟨ret_bool hr.out, HM.out⟩
          · cases A6
            · have hr := Lib.hid (show false = FB from by cases hF : FB; rfl; obtain ⟨f1, f2, f3, f4, f5, f6, f7, f8, f9, f10, f11⟩ := HFB.out.1 hF; cases f7)
              clear HFB HFK HFF
              go_enter Try.func33, Try.ntmps33
              go_wp2_with fail
              (with_reducible refine (I1.out _).mono ?_)
              rintro e w1 ⟨rfl, rfl⟩
              go_wp2_with fail
              (with_reducible refine (I2.out _).mono ?_)
              rintro e w1 ⟨rfl, rfl⟩
              go_wp2_with fail
              (with_reducible refine (X1.out _).mono ?_)
              rintro e w1 ⟨rfl, rfl⟩
              go_wp2_with fail
              (with_reducible refine (X2.out _).mono ?_)
              rintro e w1 ⟨rfl, rfl⟩
              go_wp2_with fail
              (with_reducible refine (X3.out _).mono ?_)
              rintro e w1 ⟨rfl, rfl⟩
              go_wp2_with fail
              (with_reducible refine (X4.out _).mono ?_)
              rintro e w1 ⟨rfl, rfl⟩
              go_wp2_with fail
              go_ret
              exact ⟨ret_bool hr.out, HM.out⟩
            · by_cases h16 : 16 < es.length
              · have h16' : (16 : Int) < es.length := by omega
                have hr := Lib.hid (show false = FB from by cases hF : FB; rfl; obtain ⟨f1, f2, f3, f4, f5, f6, f7, f8, f9, f10, f11⟩ := HFB.out.1 hF; omega)
                clear HFB HFK HFF
                go_enter Try.func33, Try.ntmps33
                go_wp2_with fail
                (with_reducible refine (I1.out _).mono ?_)
                rintro e w1 ⟨rfl, rfl⟩
                go_wp2_with fail
                (with_reducible refine (I2.out _).mono ?_)
                rintro e w1 ⟨rfl, rfl⟩
                go_wp2_with fail
                (with_reducible refine (X1.out _).mono ?_)
                rintro e w1 ⟨rfl, rfl⟩
                go_wp2_with fail
                (with_reducible refine (X2.out _).mono ?_)
                rintro e w1 ⟨rfl, rfl⟩
                go_wp2_with fail
                (with_reducible refine (X3.out _).mono ?_)
                rintro e w1 ⟨rfl, rfl⟩
                go_wp2_with fail
                (with_reducible refine (X4.out _).mono ?_)
                rintro e w1 ⟨rfl, rfl⟩
                go_wp2_with fail
                go_ret
                exact ⟨ret_bool hr.out, HM.out⟩
              have h16' : ¬ (16 : Int) < es.length := by omega
              cases A7
              · have hr := Lib.hid (show false = FB from by cases hF : FB; rfl; obtain ⟨f1, f2, f3, f4, f5, f6, f7, f8, f9, f10, f11⟩ := HFB.out.1 hF; cases f9)
                clear HFB HFK HFF
                go_enter Try.func33, Try.ntmps33
                go_wp2_with fail
                (with_reducible refine (I1.out _).mono ?_)
                rintro e w1 ⟨rfl, rfl⟩
                go_wp2_with fail
                (with_reducible refine (I2.out _).mono ?_)
                rintro e w1 ⟨rfl, rfl⟩
                go_wp2_with fail
                (with_reducible refine (X1.out _).mono ?_)
                rintro e w1 ⟨rfl, rfl⟩
                go_wp2_with fail
                (with_reducible refine (X2.out _).mono ?_)
                rintro e w1 ⟨rfl, rfl⟩
                go_wp2_with fail
                (with_reducible refine (X3.out _).mono ?_)
                rintro e w1 ⟨rfl, rfl⟩
                go_wp2_with fail
                (with_reducible refine (X4.out _).mono ?_)
                rintro e w1 ⟨rfl, rfl⟩
                go_wp2_with fail
                (with_reducible refine (SC.out _).mono ?_)
                rintro e w3 ⟨rfl, hm3⟩
                have HM3 := Lib.hid (HM.out.trans0 hm3)
                have HB3 := Lib.hid (HB.out.mod hm3 (by simp))
                clear hm3
                go_wp2_with fail
                go_ret
                exact ⟨ret_bool hr.out, HM3.out⟩
              · go_enter Try.func33, Try.ntmps33
                go_wp2_with fail
                (with_reducible refine (I1.out _).mono ?_)
                rintro e w1 ⟨rfl, rfl⟩
                go_wp2_with fail
                (with_reducible refine (I2.out _).mono ?_)
                rintro e w1 ⟨rfl, rfl⟩
                go_wp2_with fail
                (with_reducible refine (X1.out _).mono ?_)
                rintro e w1 ⟨rfl, rfl⟩
                go_wp2_with fail
                (with_reducible refine (X2.out _).mono ?_)
                rintro e w1 ⟨rfl, rfl⟩
                go_wp2_with fail
                (with_reducible refine (X3.out _).mono ?_)
                rintro e w1 ⟨rfl, rfl⟩
                go_wp2_with fail
                (with_reducible refine (X4.out _).mono ?_)
                rintro e w1 ⟨rfl, rfl⟩
                go_wp2_with fail
                (with_reducible refine (SC.out _).mono ?_)
                rintro e w3 ⟨rfl, hm3⟩
                have HM3 := Lib.hid (HM.out.trans0 hm3)
                have HB3 := Lib.hid (HB.out.mod hm3 (by simp))
                clear hm3
                clear I1 I2 X1 X2 X3 X4 SC
                have hes : (es.length : Int) ≤ 16 := by omega
                go_wp2_with fail
                obtain ⟨wo, rfl⟩ : ∃ wo, wo = w3 := ⟨_, rfl⟩
                go_loopw [3] (fun vi wr => ∃ i : Nat, i ≤ es.length ∧ vi = .int .i64 (i : Int) ∧ Mod w wr [] ∧ Blk wr w.heap.size #[.int .i64 kind, .int .i64 frm, .int .i64 dst, .int .i64 term, .int .i64 index, .int .i64 lt, .int .i64 commit, .bool yes, .slice ad es.length cap, .int .i64 si, .int .i64 st, .int .i64 sm, .string sx] 88 ∧ Hid (∀ t (ht : t < es.length), t < i → enB es[t] = true)) (fun vi _ => es.length + 1 - (intOf vi).toNat)
                case atStart => exact ⟨0, Nat.zero_le _, rfl, HM3.out, HB3.out, Lib.hid (fun t _ h => by omega)⟩
                case round =>
                  obtain ⟨i, hi, rfl, hm, hbr, HJ⟩ := hrel
                  have HMr := Lib.hid hm
                  have HBr := Lib.hid hbr
                  clear hm hbr HM3 HB3
                  have c8 := HBr.out.cell 8
                  by_cases hlt : i < es.length
                  · have hlt' : (i : Int) < es.length := by omega
                    obtain ⟨ad', cap', e', _, hcs⟩ := HV.out
                    injection e' with e1 e2 e3
                    subst e1 e3
                    obtain ⟨bb, off, hadd, hcs2⟩ := hcs.resolve_left (fun h => by rw [h] at hlt; simp at hlt)
                    subst hadd
                    obtain ⟨e0, e1, e2', e3⟩ := (hcs2 i hlt).mod HMr.out
                    have HX := Lib.hid (fun h => all_bad (p := enB) hlt h)
                    have HY : Hid (enB (es[i]'hlt) = true → ∀ t (ht : t < es.length), t < i + 1 → enB es[t] = true) := Lib.hid (fun h t ht hti => by
                      by_cases e : t = i
                      · subst e; exact h
                      · exact HJ.out t ht (by omega))
                    clear hcs hcs2 e2
                    generalize es[i]'hlt = x at *
                    have EC := Lib.hid (rentry_calls x wr)
                    generalize enB x = B at *
                    obtain ⟨xt, xk, xm, xs⟩ := x
                    simp only at e0 e1 e2' e3 EC
                    cases B
                    · have hr := Lib.hid (show false = FB from by cases hF : FB; rfl; obtain ⟨f1, f2, f3, f4, f5, f6, f7, f8, f9, f10, f11⟩ := HFB.out.1 hF; rw [HX.out rfl] at f11; cases f11)
                      clear HFB HFK HFF HX HY HJ
                      go_wp2_with fail
                      (with_reducible refine (EC.out).mono ?_)
                      rintro e w4 ⟨rfl, hm4⟩
                      have HM4 := Lib.hid (HMr.out.trans0 hm4)
                      clear hm4
                      go_wp2_with fail
                      go_ret
                      exact ⟨ret_bool hr.out, HM4.out⟩
                    · have HZ := Lib.hid (HY.out rfl)
                      clear HX HY HJ
                      go_wp2_with fail
                      (with_reducible refine (EC.out).mono ?_)
                      rintro e w4 ⟨rfl, hm4⟩
                      have HM4 := Lib.hid (HMr.out.trans0 hm4)
                      have HB4 := Lib.hid (HBr.out.mod hm4 (by simp))
                      clear hm4
                      go_wp2_with fail
                      go_roundw
                      case rel => exact ⟨i + 1, by omega, by go_num, HM4.out, HB4.out, HZ⟩
                      case measure => simp [intOf]; omega
                  · obtain rfl : i = es.length := by omega
                    have HALL := Lib.hid (all_good (p := enB) (l := es) (fun t ht => HJ.out t ht ht))
                    have hkr : 1 ≤ kind ∧ kind ≤ 5 := by omega
                    have HF5 := Lib.hid (HFF.out hkr)
                    have HEQ : Hid (FB = F5) := Lib.hid (by
                      rw [Bool.eq_iff_iff, HFB.out]
                      exact ⟨fun h => h.2.2.2.2.2.2.2.2.2.1, fun h => ⟨trivial, trivial, hq, trivial, trivial, trivial, trivial, by omega, trivial, h, HALL.out⟩⟩)
                    clear HFB HFK HFF HJ HALL HV
                    obtain ⟨R8, hR8⟩ : ∃ R, ((yes && (kind != 2 && kind != 4)) || ((index != 0 && (kind == 2 || kind == 5)) || (lt != 0 && (kind != 1 && kind != 3)))) = R := ⟨_, rfl⟩
                    obtain ⟨R10, hR10⟩ : ∃ R, ((commit != 0 || decide (0 < es.length)) && kind != 3) = R := ⟨_, rfl⟩
                    obtain ⟨N, hN⟩ : ∃ N, noSn si st sm sx = N := ⟨_, rfl⟩
                    rw [hR8, hR10, hN] at HF5
                    have HR8 := Lib.hid hR8
                    have HR10 := Lib.hid hR10
                    have HN := Lib.hid hN
                    clear hR8 hR10 hN
                    have c0 := HBr.out.cell 0
                    have c4 := HBr.out.cell 4
                    have c5 := HBr.out.cell 5
                    have c6 := HBr.out.cell 6
                    have c7 := HBr.out.cell 7
                    have c9 := HBr.out.cell 9
                    have c10 := HBr.out.cell 10
                    have c11 := HBr.out.cell 11
                    have c12 := HBr.out.cell 12
                    clear HBr
                    go_upto_region 8 with (fail)
                    go_cut [122] (fun s8 wx => s8 = .bool R8 ∧ wx = wr)
                    case first => as_aux_lemma =>
                      rcases (by omega : kind = 1 ∨ kind = 2 ∨ kind = 3 ∨ kind = 4 ∨ kind = 5) with rfl | rfl | rfl | rfl | rfl
                      · cases yes
                        · by_cases hi0 : index = 0
                          · have hib : (index != 0) = false := by simpa using hi0
                            by_cases hl : lt = 0
                            · have hlb : (lt != 0) = false := by simpa using hl
                              go_wp2_with fail
                              go_meet
                              exact ⟨by rw [← HR8.out]; simp [hib, hlb], rfl⟩
                            · have hlb : (lt != 0) = true := by simpa using hl
                              go_wp2_with fail
                              go_meet
                              exact ⟨by rw [← HR8.out]; simp [hib, hlb], rfl⟩
                          · have hib : (index != 0) = true := by simpa using hi0
                            by_cases hl : lt = 0
                            · have hlb : (lt != 0) = false := by simpa using hl
                              go_wp2_with fail
                              go_meet
                              exact ⟨by rw [← HR8.out]; simp [hib, hlb], rfl⟩
                            · have hlb : (lt != 0) = true := by simpa using hl
                              go_wp2_with fail
                              go_meet
                              exact ⟨by rw [← HR8.out]; simp [hib, hlb], rfl⟩
                        · go_wp2_with fail
                          go_meet
                          exact ⟨by rw [← HR8.out]; simp, rfl⟩
                      · cases yes
                        · by_cases hi0 : index = 0
                          · have hib : (index != 0) = false := by simpa using hi0
                            by_cases hl : lt = 0
                            · have hlb : (lt != 0) = false := by simpa using hl
                              go_wp2_with fail
                              go_meet
                              exact ⟨by rw [← HR8.out]; simp [hib, hlb], rfl⟩
                            · have hlb : (lt != 0) = true := by simpa using hl
                              go_wp2_with fail
                              go_meet
                              exact ⟨by rw [← HR8.out]; simp [hib, hlb], rfl⟩
                          · have hib : (index != 0) = true := by simpa using hi0
                            go_wp2_with fail
                            go_meet
                            exact ⟨by rw [← HR8.out]; simp [hib], rfl⟩
                        · by_cases hi0 : index = 0
                          · have hib : (index != 0) = false := by simpa using hi0
                            by_cases hl : lt = 0
                            · have hlb : (lt != 0) = false := by simpa using hl
                              go_wp2_with fail
                              go_meet
                              exact ⟨by rw [← HR8.out]; simp [hib, hlb], rfl⟩
                            · have hlb : (lt != 0) = true := by simpa using hl
                              go_wp2_with fail
                              go_meet
                              exact ⟨by rw [← HR8.out]; simp [hib, hlb], rfl⟩
                          · have hib : (index != 0) = true := by simpa using hi0
                            go_wp2_with fail
                            go_meet
                            exact ⟨by rw [← HR8.out]; simp [hib], rfl⟩
                      · cases yes
                        · by_cases hi0 : index = 0
                          · have hib : (index != 0) = false := by simpa using hi0
                            by_cases hl : lt = 0
                            · have hlb : (lt != 0) = false := by simpa using hl
                              go_wp2_with fail
                              go_meet
                              exact ⟨by rw [← HR8.out]; simp [hib, hlb], rfl⟩
                            · have hlb : (lt != 0) = true := by simpa using hl
                              go_wp2_with fail
                              go_meet
                              exact ⟨by rw [← HR8.out]; simp [hib, hlb], rfl⟩
                          · have hib : (index != 0) = true := by simpa using hi0
                            by_cases hl : lt = 0
                            · have hlb : (lt != 0) = false := by simpa using hl
                              go_wp2_with fail
                              go_meet
                              exact ⟨by rw [← HR8.out]; simp [hib, hlb], rfl⟩
                            · have hlb : (lt != 0) = true := by simpa using hl
                              go_wp2_with fail
                              go_meet
                              exact ⟨by rw [← HR8.out]; simp [hib, hlb], rfl⟩
                        · go_wp2_with fail
                          go_meet
                          exact ⟨by rw [← HR8.out]; simp, rfl⟩
                      · cases yes
                        · by_cases hi0 : index = 0
                          · have hib : (index != 0) = false := by simpa using hi0
                            by_cases hl : lt = 0
                            · have hlb : (lt != 0) = false := by simpa using hl
                              go_wp2_with fail
                              go_meet
                              exact ⟨by rw [← HR8.out]; simp [hib, hlb], rfl⟩
                            · have hlb : (lt != 0) = true := by simpa using hl
                              go_wp2_with fail
                              go_meet
                              exact ⟨by rw [← HR8.out]; simp [hib, hlb], rfl⟩
                          · have hib : (index != 0) = true := by simpa using hi0
                            by_cases hl : lt = 0
                            · have hlb : (lt != 0) = false := by simpa using hl
                              go_wp2_with fail
                              go_meet
                              exact ⟨by rw [← HR8.out]; simp [hib, hlb], rfl⟩
                            · have hlb : (lt != 0) = true := by simpa using hl
                              go_wp2_with fail
                              go_meet
                              exact ⟨by rw [← HR8.out]; simp [hib, hlb], rfl⟩
                        · by_cases hi0 : index = 0
                          · have hib : (index != 0) = false := by simpa using hi0
                            by_cases hl : lt = 0
                            · have hlb : (lt != 0) = false := by simpa using hl
                              go_wp2_with fail
                              go_meet
                              exact ⟨by rw [← HR8.out]; simp [hib, hlb], rfl⟩
                            · have hlb : (lt != 0) = true := by simpa using hl
                              go_wp2_with fail
                              go_meet
                              exact ⟨by rw [← HR8.out]; simp [hib, hlb], rfl⟩
                          · have hib : (index != 0) = true := by simpa using hi0
                            by_cases hl : lt = 0
                            · have hlb : (lt != 0) = false := by simpa using hl
                              go_wp2_with fail
                              go_meet
                              exact ⟨by rw [← HR8.out]; simp [hib, hlb], rfl⟩
                            · have hlb : (lt != 0) = true := by simpa using hl
                              go_wp2_with fail
                              go_meet
                              exact ⟨by rw [← HR8.out]; simp [hib, hlb], rfl⟩
                      · cases yes
                        · by_cases hi0 : index = 0
                          · have hib : (index != 0) = false := by simpa using hi0
                            by_cases hl : lt = 0
                            · have hlb : (lt != 0) = false := by simpa using hl
                              go_wp2_with fail
                              go_meet
                              exact ⟨by rw [← HR8.out]; simp [hib, hlb], rfl⟩
                            · have hlb : (lt != 0) = true := by simpa using hl
                              go_wp2_with fail
                              go_meet
                              exact ⟨by rw [← HR8.out]; simp [hib, hlb], rfl⟩
                          · have hib : (index != 0) = true := by simpa using hi0
                            go_wp2_with fail
                            go_meet
                            exact ⟨by rw [← HR8.out]; simp [hib], rfl⟩
                        · go_wp2_with fail
                          go_meet
                          exact ⟨by rw [← HR8.out]; simp, rfl⟩
                    case rest =>
                      obtain ⟨rfl, hwc⟩ := hcut
                      replace hwc := hwc.symm
                      subst hwc
                      cases R8
                      · go_upto_region 10 with (fail)
                        go_cut [136] (fun s10 wx => s10 = .bool R10 ∧ wx = wr)
                        case first => as_aux_lemma =>
                          obtain ⟨E, hE⟩ : ∃ E, decide (0 < es.length) = E := ⟨_, rfl⟩
                          by_cases hc : commit = 0
                          · have hcb : (commit != 0) = false := by simpa using hc
                            cases E
                            · go_wp2_with fail
                              go_meet
                              exact ⟨by rw [← HR10.out]; simp [hcb, hE], rfl⟩
                            · by_cases h3 : kind = 3
                              · have h3b : (kind != 3) = false := by simpa using h3
                                go_wp2_with fail
                                go_meet
                                exact ⟨by rw [← HR10.out]; simp [hcb, hE, h3b], rfl⟩
                              · have h3b : (kind != 3) = true := by simpa using h3
                                go_wp2_with fail
                                go_meet
                                exact ⟨by rw [← HR10.out]; simp [hcb, hE, h3b], rfl⟩
                          · have hcb : (commit != 0) = true := by simpa using hc
                            by_cases h3 : kind = 3
                            · have h3b : (kind != 3) = false := by simpa using h3
                              go_wp2_with fail
                              go_meet
                              exact ⟨by rw [← HR10.out]; simp [hcb, h3b], rfl⟩
                            · have h3b : (kind != 3) = true := by simpa using h3
                              go_wp2_with fail
                              go_meet
                              exact ⟨by rw [← HR10.out]; simp [hcb, h3b], rfl⟩
                        case rest =>
                          obtain ⟨rfl, hwc⟩ := hcut
                          replace hwc := hwc.symm
                          subst hwc
                          cases R10
                          · have HF6 : Hid (FB = (kind == 5 || N)) := Lib.hid (by rw [HEQ.out, HF5.out]; rfl)
                            clear HEQ HF5
                            as_aux_lemma =>
                              by_cases h5 : kind = 5
                              · have h5b : (kind == 5) = true := by simpa using h5
                                go_wp2_with fail
                                go_ret
                                exact ⟨ret_bool (by rw [HF6.out, ← HN.out]; simp [noSn, h5b]), HMr.out⟩
                              have h5b : (kind == 5) = false := by simpa using h5
                              by_cases hsi : si = 0
                              · have hsib : (si == 0) = true := by simpa using hsi
                                by_cases hst : st = 0
                                · have hstb : (st == 0) = true := by simpa using hst
                                  by_cases hsm : sm = 0
                                  · have hsmb : (sm == 0) = true := by simpa using hsm
                                    by_cases hs : sx.size = 0
                                    · have he := isEmpty_zero sx hs
                                      go_wp2_with fail
                                      go_ret
                                      exact ⟨ret_bool (by rw [HF6.out, ← HN.out]; simp [noSn, h5b, hsib, hstb, hsmb, he]), HMr.out⟩
                                    · have he := isEmpty_size sx (by omega)
                                      go_wp2_with fail
                                      go_ret
                                      exact ⟨ret_bool (by rw [HF6.out, ← HN.out]; simp [noSn, h5b, hsib, hstb, hsmb, he]), HMr.out⟩
                                  · have hsmb : (sm == 0) = false := by simpa using hsm
                                    go_wp2_with fail
                                    go_ret
                                    exact ⟨ret_bool (by rw [HF6.out, ← HN.out]; simp [noSn, h5b, hsib, hstb, hsmb]), HMr.out⟩
                                · have hstb : (st == 0) = false := by simpa using hst
                                  go_wp2_with fail
                                  go_ret
                                  exact ⟨ret_bool (by rw [HF6.out, ← HN.out]; simp [noSn, h5b, hsib, hstb]), HMr.out⟩
                              · have hsib : (si == 0) = false := by simpa using hsi
                                go_wp2_with fail
                                go_ret
                                exact ⟨ret_bool (by rw [HF6.out, ← HN.out]; simp [noSn, h5b, hsib]), HMr.out⟩
                          · have hr := Lib.hid (show false = FB from by rw [HEQ.out, HF5.out]; rfl)
                            clear HEQ HF5
                            go_wp2_with fail
                            go_ret
                            exact ⟨ret_bool hr.out, HMr.out⟩
                      · have hr := Lib.hid (show false = FB from by rw [HEQ.out, HF5.out]; rfl)
                        clear HEQ HF5
                        go_wp2_with fail
                        go_ret
                        exact ⟨ret_bool hr.out, HMr.out⟩
end Go.Proofs.Ytgmenlfhkhdbdaa.Ra
