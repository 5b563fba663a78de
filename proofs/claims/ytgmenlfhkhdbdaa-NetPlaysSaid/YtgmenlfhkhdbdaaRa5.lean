/- Which messages may be: the program's Check. -/
import Derived.Test.YtgmenlfhkhdbdaaRa4
namespace Go.Proofs.Ytgmenlfhkhdbdaa.Ra
open Go.RowKit Mem Bits
set_option linter.unusedSimpArgs false
set_option linter.unusedVariables false
set_option maxRecDepth 100000

/-- Which messages may be. -/
def checkB (m : Ms) : Bool := inB m.frm 0 6 && (inB m.dst 0 6 && (!(m.frm == m.dst) && ([m.term, m.index, m.lt, m.commit].all ixB && (!decide (16 < m.es.length) && (snB m.si m.st m.sm m.sx && (fieldsB m && m.es.all enB))))))
set_option maxHeartbeats 16000000 in
theorem check_calls (m : Ms) (v : Value) (w : World) (hv : EnsV w v m.es) (hn : m.es.length ≤ 100000) : Calls Try.prog 32 #[msV m v] w fun e w' => e = .returned (.bool (checkB m)) ∧ Mod w w' [] := by
  have HFB : Hid (checkB m = (inB m.frm 0 6 && (inB m.dst 0 6 && (!(m.frm == m.dst) && ([m.term, m.index, m.lt, m.commit].all ixB && (!decide (16 < m.es.length) && (snB m.si m.st m.sm m.sx && (fieldsB m && m.es.all enB)))))))) := Lib.hid rfl
  generalize checkB m = FB at *
  have HV := Lib.hid hv
  obtain ⟨ad, cap, rfl, _, _⟩ := hv
  have FC := Lib.hid (fun w => fields_calls m ad cap w hn)
  generalize fieldsB m = A5 at *
  have EC := Lib.hid (fun w' (hm : Mod w w' []) => encont_calls _ m.es w' (HV.out.mod hm) hn)
  generalize m.es.all enB = A6 at *
  obtain ⟨kind, frm, to, term, index, lt, commit, yes, es, si, st, sm, sx⟩ := m
  simp only at hn HFB EC
  clear HV
  replace FC : Hid (∀ w, Calls Try.prog 72 #[.agg #[.int .i64 kind, .int .i64 frm, .int .i64 to, .int .i64 term, .int .i64 index, .int .i64 lt, .int .i64 commit, .bool yes, .slice ad es.length cap, .int .i64 si, .int .i64 st, .int .i64 sm, .string sx]] w fun e w' => e = .returned (.bool A5) ∧ Mod w w' []) := FC
  show Calls _ _ #[.agg #[.int .i64 kind, .int .i64 frm, .int .i64 to, .int .i64 term, .int .i64 index, .int .i64 lt, .int .i64 commit, .bool yes, .slice ad es.length cap, .int .i64 si, .int .i64 st, .int .i64 sm, .string sx]] _ _
  have HM := Lib.hid ((Mod.refl w []).alloc (.cells #[.int .i64 kind, .int .i64 frm, .int .i64 to, .int .i64 term, .int .i64 index, .int .i64 lt, .int .i64 commit, .bool yes, .slice ad es.length cap, .int .i64 si, .int .i64 st, .int .i64 sm, .string sx] 33))
  have HMI := Lib.hid (HM.out.alloc (.cells #[.int .i64 term, .int .i64 index, .int .i64 lt, .int .i64 commit] 3))
  have HB := Lib.hid ((Blk.new w #[.int .i64 kind, .int .i64 frm, .int .i64 to, .int .i64 term, .int .i64 index, .int .i64 lt, .int .i64 commit, .bool yes, .slice ad es.length cap, .int .i64 si, .int .i64 st, .int .i64 sm, .string sx] 33).alloc (.cells #[.int .i64 term, .int .i64 index, .int .i64 lt, .int .i64 commit] 3))
  have XC := Lib.hid (index_calls _ _ _ (ints_new (w.alloc (.cells #[.int .i64 kind, .int .i64 frm, .int .i64 to, .int .i64 term, .int .i64 index, .int .i64 lt, .int .i64 commit, .bool yes, .slice ad es.length cap, .int .i64 si, .int .i64 st, .int .i64 sm, .string sx] 33)) [term, index, lt, commit]) (by simp))
  simp only [World.size_alloc, List.length_cons, List.length_nil, List.map_cons, List.map_nil, Nat.zero_add] at XC
  have I1 := Lib.hid (fun w => in_calls frm 0 6 w)
  have I2 := Lib.hid (fun w => in_calls to 0 6 w)
  have SC := Lib.hid (fun w => snap_calls si st sm sx w)
  generalize inB frm 0 6 = A1 at *
  generalize inB to 0 6 = A2 at *
  generalize [term, index, lt, commit].all ixB = A3 at *
  generalize snB si st sm sx = A4 at *
  cases A1
  · go_enter Try.func32, Try.ntmps32
    go_wp2_with fail
    (with_reducible refine (I1.out _).mono ?_)
    rintro e w1 ⟨rfl, rfl⟩
    go_wp2_with fail
    go_ret
    exact ⟨ret_bool (by rw [HFB.out]; simp), HM.out⟩
  · cases A2
    · go_enter Try.func32, Try.ntmps32
      go_wp2_with fail
      (with_reducible refine (I1.out _).mono ?_)
      rintro e w1 ⟨rfl, rfl⟩
      go_wp2_with fail
      (with_reducible refine (I2.out _).mono ?_)
      rintro e w1 ⟨rfl, rfl⟩
      go_wp2_with fail
      go_ret
      exact ⟨ret_bool (by rw [HFB.out]; simp), HM.out⟩
    · by_cases hq : frm = to
      · subst hq
        go_enter Try.func32, Try.ntmps32
        go_wp2_with fail
        (with_reducible refine (I1.out _).mono ?_)
        rintro e w1 ⟨rfl, rfl⟩
        go_wp2_with fail
        (with_reducible refine (I2.out _).mono ?_)
        rintro e w1 ⟨rfl, rfl⟩
        go_wp2_with fail
        go_ret
        exact ⟨ret_bool (by rw [HFB.out]; simp), HM.out⟩
      have hqb : (frm == to) = false := by simpa using hq
      cases A3
      · go_enter Try.func32, Try.ntmps32
        go_wp2_with fail
        (with_reducible refine (I1.out _).mono ?_)
        rintro e w1 ⟨rfl, rfl⟩
        go_wp2_with fail
        (with_reducible refine (I2.out _).mono ?_)
        rintro e w1 ⟨rfl, rfl⟩
        go_wp2_with fail
        (with_reducible refine (XC.out).mono ?_)
        rintro e w3 ⟨rfl, hm3⟩
        have HM3 := Lib.hid (HMI.out.trans0 hm3)
        have hb := HB.out.mod hm3 (by simp)
        have c8 := hb.cell 8
        have c9 := hb.cell 9
        have c10 := hb.cell 10
        have c11 := hb.cell 11
        have c12 := hb.cell 12
        have HB3 := Lib.hid hb
        clear hb hm3
        go_wp2_with fail
        go_ret
        exact ⟨ret_bool (by rw [HFB.out]; simp), HM3.out⟩
      · by_cases h16 : 16 < es.length
        · have h16' : (16 : Int) < es.length := by omega
          go_enter Try.func32, Try.ntmps32
          go_wp2_with fail
          (with_reducible refine (I1.out _).mono ?_)
          rintro e w1 ⟨rfl, rfl⟩
          go_wp2_with fail
          (with_reducible refine (I2.out _).mono ?_)
          rintro e w1 ⟨rfl, rfl⟩
          go_wp2_with fail
          (with_reducible refine (XC.out).mono ?_)
          rintro e w3 ⟨rfl, hm3⟩
          have HM3 := Lib.hid (HMI.out.trans0 hm3)
          have hb := HB.out.mod hm3 (by simp)
          have c8 := hb.cell 8
          have c9 := hb.cell 9
          have c10 := hb.cell 10
          have c11 := hb.cell 11
          have c12 := hb.cell 12
          have HB3 := Lib.hid hb
          clear hb hm3
          go_wp2_with fail
          go_ret
          exact ⟨ret_bool (by rw [HFB.out]; simp [h16]), HM3.out⟩
        have h16' : ¬ (16 : Int) < es.length := by omega
        cases A4
        · go_enter Try.func32, Try.ntmps32
          go_wp2_with fail
          (with_reducible refine (I1.out _).mono ?_)
          rintro e w1 ⟨rfl, rfl⟩
          go_wp2_with fail
          (with_reducible refine (I2.out _).mono ?_)
          rintro e w1 ⟨rfl, rfl⟩
          go_wp2_with fail
          (with_reducible refine (XC.out).mono ?_)
          rintro e w3 ⟨rfl, hm3⟩
          have HM3 := Lib.hid (HMI.out.trans0 hm3)
          have hb := HB.out.mod hm3 (by simp)
          have c8 := hb.cell 8
          have c9 := hb.cell 9
          have c10 := hb.cell 10
          have c11 := hb.cell 11
          have c12 := hb.cell 12
          have HB3 := Lib.hid hb
          clear hb hm3
          go_wp2_with fail
          (with_reducible refine (SC.out _).mono ?_)
          rintro e w4 ⟨rfl, hm4⟩
          have HM4 := Lib.hid (HM3.out.trans0 hm4)
          have hb := HB3.out.mod hm4 (by simp)
          have d0 := hb.cell 0
          have d1 := hb.cell 1
          have d2 := hb.cell 2
          have d3 := hb.cell 3
          have d4 := hb.cell 4
          have d5 := hb.cell 5
          have d6 := hb.cell 6
          have d7 := hb.cell 7
          have d8 := hb.cell 8
          have d9 := hb.cell 9
          have d10 := hb.cell 10
          have d11 := hb.cell 11
          have d12 := hb.cell 12
          have HB4 := Lib.hid hb
          clear hb hm4 c8 c9 c10 c11 c12
          go_wp2_with fail
          go_ret
          exact ⟨ret_bool (by rw [HFB.out]; simp), HM4.out⟩
        · cases A5
          · go_enter Try.func32, Try.ntmps32
            go_wp2_with fail
            (with_reducible refine (I1.out _).mono ?_)
            rintro e w1 ⟨rfl, rfl⟩
            go_wp2_with fail
            (with_reducible refine (I2.out _).mono ?_)
            rintro e w1 ⟨rfl, rfl⟩
            go_wp2_with fail
            (with_reducible refine (XC.out).mono ?_)
            rintro e w3 ⟨rfl, hm3⟩
            have HM3 := Lib.hid (HMI.out.trans0 hm3)
            have hb := HB.out.mod hm3 (by simp)
            have c8 := hb.cell 8
            have c9 := hb.cell 9
            have c10 := hb.cell 10
            have c11 := hb.cell 11
            have c12 := hb.cell 12
            have HB3 := Lib.hid hb
            clear hb hm3
            go_wp2_with fail
            (with_reducible refine (SC.out _).mono ?_)
            rintro e w4 ⟨rfl, hm4⟩
            have HM4 := Lib.hid (HM3.out.trans0 hm4)
            have hb := HB3.out.mod hm4 (by simp)
            have d0 := hb.cell 0
            have d1 := hb.cell 1
            have d2 := hb.cell 2
            have d3 := hb.cell 3
            have d4 := hb.cell 4
            have d5 := hb.cell 5
            have d6 := hb.cell 6
            have d7 := hb.cell 7
            have d8 := hb.cell 8
            have d9 := hb.cell 9
            have d10 := hb.cell 10
            have d11 := hb.cell 11
            have d12 := hb.cell 12
            have HB4 := Lib.hid hb
            clear hb hm4 c8 c9 c10 c11 c12
            go_wp2_with fail
            (with_reducible refine (FC.out _).mono ?_)
            rintro e w5 ⟨rfl, hm5⟩
            have HM5 := Lib.hid (HM4.out.trans0 hm5)
            have hb := HB4.out.mod hm5 (by simp)
            have f8 := hb.cell 8
            have EC5 := Lib.hid (EC.out _ HM5.out)
            clear hb hm5 EC d0 d1 d2 d3 d4 d5 d6 d7 d8 d9 d10 d11 d12
            go_wp2_with fail
            go_ret
            exact ⟨ret_bool (by rw [HFB.out]; simp), HM5.out⟩
          · cases A6
            · go_enter Try.func32, Try.ntmps32
              go_wp2_with fail
              (with_reducible refine (I1.out _).mono ?_)
              rintro e w1 ⟨rfl, rfl⟩
              go_wp2_with fail
              (with_reducible refine (I2.out _).mono ?_)
              rintro e w1 ⟨rfl, rfl⟩
              go_wp2_with fail
              (with_reducible refine (XC.out).mono ?_)
              rintro e w3 ⟨rfl, hm3⟩
              have HM3 := Lib.hid (HMI.out.trans0 hm3)
              have hb := HB.out.mod hm3 (by simp)
              have c8 := hb.cell 8
              have c9 := hb.cell 9
              have c10 := hb.cell 10
              have c11 := hb.cell 11
              have c12 := hb.cell 12
              have HB3 := Lib.hid hb
              clear hb hm3
              go_wp2_with fail
              (with_reducible refine (SC.out _).mono ?_)
              rintro e w4 ⟨rfl, hm4⟩
              have HM4 := Lib.hid (HM3.out.trans0 hm4)
              have hb := HB3.out.mod hm4 (by simp)
              have d0 := hb.cell 0
              have d1 := hb.cell 1
              have d2 := hb.cell 2
              have d3 := hb.cell 3
              have d4 := hb.cell 4
              have d5 := hb.cell 5
              have d6 := hb.cell 6
              have d7 := hb.cell 7
              have d8 := hb.cell 8
              have d9 := hb.cell 9
              have d10 := hb.cell 10
              have d11 := hb.cell 11
              have d12 := hb.cell 12
              have HB4 := Lib.hid hb
              clear hb hm4 c8 c9 c10 c11 c12
              go_wp2_with fail
              (with_reducible refine (FC.out _).mono ?_)
              rintro e w5 ⟨rfl, hm5⟩
              have HM5 := Lib.hid (HM4.out.trans0 hm5)
              have hb := HB4.out.mod hm5 (by simp)
              have f8 := hb.cell 8
              have EC5 := Lib.hid (EC.out _ HM5.out)
              clear hb hm5 EC d0 d1 d2 d3 d4 d5 d6 d7 d8 d9 d10 d11 d12
              go_wp2_with fail
              (with_reducible refine (EC5.out).mono ?_)
              rintro e w6 ⟨rfl, hm6⟩
              have HM6 := Lib.hid (HM5.out.trans0 hm6)
              clear hm6
              go_wp2_with fail
              go_ret
              exact ⟨ret_bool (by rw [HFB.out]; simp), HM6.out⟩
            · go_enter Try.func32, Try.ntmps32
              go_wp2_with fail
              (with_reducible refine (I1.out _).mono ?_)
              rintro e w1 ⟨rfl, rfl⟩
              go_wp2_with fail
              (with_reducible refine (I2.out _).mono ?_)
              rintro e w1 ⟨rfl, rfl⟩
              go_wp2_with fail
              (with_reducible refine (XC.out).mono ?_)
              rintro e w3 ⟨rfl, hm3⟩
              have HM3 := Lib.hid (HMI.out.trans0 hm3)
              have hb := HB.out.mod hm3 (by simp)
              have c8 := hb.cell 8
              have c9 := hb.cell 9
              have c10 := hb.cell 10
              have c11 := hb.cell 11
              have c12 := hb.cell 12
              have HB3 := Lib.hid hb
              clear hb hm3
              go_wp2_with fail
              (with_reducible refine (SC.out _).mono ?_)
              rintro e w4 ⟨rfl, hm4⟩
              have HM4 := Lib.hid (HM3.out.trans0 hm4)
              have hb := HB3.out.mod hm4 (by simp)
              have d0 := hb.cell 0
              have d1 := hb.cell 1
              have d2 := hb.cell 2
              have d3 := hb.cell 3
              have d4 := hb.cell 4
              have d5 := hb.cell 5
              have d6 := hb.cell 6
              have d7 := hb.cell 7
              have d8 := hb.cell 8
              have d9 := hb.cell 9
              have d10 := hb.cell 10
              have d11 := hb.cell 11
              have d12 := hb.cell 12
              have HB4 := Lib.hid hb
              clear hb hm4 c8 c9 c10 c11 c12
              go_wp2_with fail
              (with_reducible refine (FC.out _).mono ?_)
              rintro e w5 ⟨rfl, hm5⟩
              have HM5 := Lib.hid (HM4.out.trans0 hm5)
              have hb := HB4.out.mod hm5 (by simp)
              have f8 := hb.cell 8
              have EC5 := Lib.hid (EC.out _ HM5.out)
              clear hb hm5 EC d0 d1 d2 d3 d4 d5 d6 d7 d8 d9 d10 d11 d12
              go_wp2_with fail
              (with_reducible refine (EC5.out).mono ?_)
              rintro e w6 ⟨rfl, hm6⟩
              have HM6 := Lib.hid (HM5.out.trans0 hm6)
              clear hm6
              go_wp2_with fail
              go_ret
              exact ⟨ret_bool (by rw [HFB.out]; simp [hq, h16]), HM6.out⟩
end Go.Proofs.Ytgmenlfhkhdbdaa.Ra
