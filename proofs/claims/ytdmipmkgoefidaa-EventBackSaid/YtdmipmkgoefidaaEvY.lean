/- The law EventBack. -/
import Derived.Test.YtdmipmkgoefidaaEvM
namespace Go.Proofs.Ytdmipmkgoefidaa.Ev
open Go.RowKit Mem Bits EvH
set_option linter.unusedSimpArgs false
set_option linter.unusedVariables false
set_option maxRecDepth 100000

set_option maxHeartbeats 4000000 in
theorem eventBack_calls (w : World) (ca : Array Value) (ha : Open.Rd w evSh ca.toList) (s : ByteArray) (hs : s.size ≤ 140737488351232) :
    Calls Try.prog 9 #[.agg ca, .string s] w fun e w' => e = .returned (.bool true) ∧ Below w.heap.size w w' := by
  obtain ⟨a, b, c, k, sl, l, ea, ok⟩ := ev_rd ha
  obtain rfl := arr_of ea
  obtain ⟨ad, cap, hsl⟩ := ok.shape
  have hln := ok.n
  have AW := Lib.hid awake_calls
  have HF := Lib.hid ok.f
  have HB0 := Lib.hid (Blk.new w #[.int .i64 a, .int .i64 b, .int .i64 c, .string k, sl] 24)
  have HM0 := Lib.hid ((Mod.refl w []).alloc (.cells #[.int .i64 a, .int .i64 b, .int .i64 c, .string k, sl] 24))
  by_cases h100 : 100 < l.length
  · have h' : 100 < (l.length : Int) := by omega
    subst hsl
    clear ok ea ha h100
    go_enter Try.func9, Try.ntmps9
    go_wp2_with fail
    refine (AW.out _).mono ?_
    rintro e w1 ⟨rfl, hm1⟩
    go_wp2_with fail
    go_ret
    exact ⟨rfl, (HM0.out.trans0 hm1).below0⟩
  have h' : (l.length : Int) ≤ 100 := by omega
  by_cases h5 : 5000 < s.size
  · have h5' : 5000 < (s.size : Int) := by omega
    subst hsl
    clear ok ea ha h100
    go_enter Try.func9, Try.ntmps9
    go_wp2_with fail
    refine (AW.out _).mono ?_
    rintro e w1 ⟨rfl, hm1⟩
    go_wp2_with fail
    go_ret
    exact ⟨rfl, (HM0.out.trans0 hm1).below0⟩
  have h5' : (s.size : Int) ≤ 5000 := by omega
  have hs5 : s.size ≤ 5000 := by omega
  have D2 := Lib.hid (fun w => decode_calls s (by omega) w)
  have E1 := Lib.hid (fun w hf => encode_calls a b c k ok.kz sl l ok.ok (by omega) w hf)
  cases hcb : checkB a b c k l
  · rw [checkR_bad hcb] at E1
    generalize encR a b c k l = S1 at *
    clear ok ea ha h100 hcb h5
    subst hsl
    go_enter Try.func9, Try.ntmps9
    go_wp2_with fail
    refine (E1.out _ (HF.out.mod HM0.out)).mono ?_
    rintro e w1 ⟨rfl, hm1⟩
    have HM1 := Lib.hid (HM0.out.trans0 hm1)
    obtain ⟨b0, b1, b2, b3, b4⟩ := Blk5 (HB0.out.mod hm1 (by simp))
    clear hm1
    go_wp2_with fail
    refine (D2.out _).mono ?_
    rintro e w11 ⟨v11, rfl, hm11, hf11⟩
    obtain ⟨a2, n2, c2, rfl⟩ := flds_slice hf11
    have HM11 := Lib.hid (HM1.out.trans0 hm11)
    have HF11 := Lib.hid hf11
    clear hm11 hf11
    cases ho : okD s
    · obtain ⟨o1, o2⟩ := outD_bad ho
      rw [o1] at HF11 ⊢
      rw [o2]
      have RC0 := Lib.hid (fun sl w hf => ref_calls 0 0 0 ⟨#[]⟩ sl [] (by decide) w hf)
      have SC0 := Lib.hid (fun sl sl' w hf hf' => same_calls 0 0 0 ⟨#[]⟩ sl sl' [] (by decide) w hf hf')
      dsimp only [zeroD] at HF11 ⊢
      clear ho o1 o2 b0 b1 b2 b3 b4
      go_wp2_with fail
      refine (AW.out _).mono ?_
      rintro e w12 ⟨rfl, hm12⟩
      have HM12 := Lib.hid ((HM11.out.alloc (.cells #[.int .i64 0, .int .i64 0, .int .i64 0, .string ⟨#[]⟩, .slice a2 n2 c2] 24)).trans0 hm12)
      have HF12 := Lib.hid ((HF11.out.mod ((Mod.refl w11 []).alloc (.cells #[.int .i64 0, .int .i64 0, .int .i64 0, .string ⟨#[]⟩, .slice a2 n2 c2] 24))).mod hm12)
      obtain ⟨b0, b1, b2, b3, b4⟩ := Blk5 ((Blk.new w11 #[.int .i64 0, .int .i64 0, .int .i64 0, .string ⟨#[]⟩, .slice a2 n2 c2] 24).mod hm12 (by simp))
      clear hm12
      go_wp2_with fail
      refine (RC0.out _ _ HF12.out).mono ?_
      rintro e w13 ⟨v13, rfl, hm13, hf13⟩
      have HM13 := Lib.hid (HM12.out.trans0 hm13)
      have HF13 := Lib.hid hf13
      clear hm13 hf13
      go_wp2_with fail
      refine (SC0.out _ _ _ HF13.out (.inl ⟨rfl, none, 0, rfl⟩)).mono ?_
      rintro e w14 ⟨rfl, hm14⟩
      have HM14 := Lib.hid (HM13.out.trans0 hm14)
      clear hm14
      go_wp2_with fail
      go_ret
      exact ⟨rfl, HM14.out.below0⟩
    · obtain ⟨o1, o2⟩ := outD_good ho
      obtain ⟨r1, r2⟩ := back_read s ho
      obtain ⟨-, -, -, rk, rl, -⟩ := check_parts _ _ _ _ _ r1
      have rok : ∀ x ∈ (rawD s).l, FldOK x := gD_ok s (by omega)
      have hcc := checkR_good r1
      have hee : encR (rawD s).a (rawD s).b (rawD s).c (rawD s).k (rawD s).l = s := by unfold encR; rw [r1, if_pos rfl]; exact r2
      have E3 := Lib.hid (fun sl w hf => encode_calls (rawD s).a (rawD s).b (rawD s).c (rawD s).k (by omega) sl (rawD s).l rok (by omega) w hf)
      rw [hcc, hee] at E3
      rw [o1] at HF11 ⊢
      rw [o2]
      have hss : (s.toList == s.toList) = true := by simp
      clear ho o1 o2 r1 r2 rk rl rok hcc hee b0 b1 b2 b3 b4
      generalize rawD s = D at *
      obtain ⟨da, db, dc, dk, dl⟩ := D
      dsimp only at HF11 E3 ⊢
      go_wp2_with fail
      refine (E3.out _ _ (HF11.out.mod ((Mod.refl w11 []).alloc (.cells #[.int .i64 da, .int .i64 db, .int .i64 dc, .string dk, .slice a2 n2 c2] 24)))).mono ?_
      rintro e w12 ⟨rfl, hm12⟩
      have HM12 := Lib.hid ((HM11.out.alloc (.cells #[.int .i64 da, .int .i64 db, .int .i64 dc, .string dk, .slice a2 n2 c2] 24)).trans0 hm12)
      clear hm12
      go_wp2_with fail
      refine (AW.out _).mono ?_
      rintro e w13 ⟨rfl, hm13⟩
      have HM13 := Lib.hid (HM12.out.trans0 hm13)
      clear hm13
      go_wp2_with fail
      go_ret
      exact ⟨rfl, HM13.out.below0⟩
  · have hee : encR a b c k l = encTo a b c k l l.length := by unfold encR; rw [hcb, if_pos rfl]
    have hz := encTo_size a b c k l hcb l.length (Nat.le_refl _)
    have hp := check_parts a b c k l hcb
    obtain ⟨w1, w2⟩ := back_write a b c k l ok.ok hcb
    have D1 := Lib.hid (fun w => decode_calls (encTo a b c k l l.length) (by omega) w)
    rw [checkR_good hcb, hee] at E1
    rw [w1, w2] at D1
    dsimp only at D1
    have RC1 := Lib.hid (fun sl w hf => ref_calls a b c k sl (l.map canF) (by rw [List.length_map]; omega) w hf)
    have RC2 := Lib.hid (fun sl w hf => ref_calls a b c k sl l (by omega) w hf)
    have SC := Lib.hid (fun sl sl' w hf hf' => same2_calls a b c k sl sl' l (l.map canF) rfl (by omega) w hf hf')
    clear w1 w2 hee hz hp
    generalize encTo a b c k l l.length = S1 at *
    clear ok ea ha h100 hcb h5
    subst hsl
    go_enter Try.func9, Try.ntmps9
    go_wp2_with fail
    refine (E1.out _ (HF.out.mod HM0.out)).mono ?_
    rintro e w1 ⟨rfl, hm1⟩
    have HM1 := Lib.hid (HM0.out.trans0 hm1)
    have HB1 := Lib.hid (HB0.out.mod hm1 (by simp))
    have HF1 := Lib.hid ((HF.out.mod HM0.out).mod hm1)
    clear hm1
    go_wp2_with fail
    refine (D1.out _).mono ?_
    rintro e w2 ⟨v2, rfl, hm2, hf2⟩
    obtain ⟨a1, n1, c1, rfl⟩ := flds_slice hf2
    have HM2 := Lib.hid ((HM1.out.trans0 hm2).alloc (.cells #[.int .i64 a, .int .i64 b, .int .i64 c, .string k, .slice a1 n1 c1] 24))
    have HB2 := Lib.hid ((HB1.out.mod hm2 (by simp)).alloc (.cells #[.int .i64 a, .int .i64 b, .int .i64 c, .string k, .slice a1 n1 c1] 24))
    have HX2 := Lib.hid (Blk.new w2 #[.int .i64 a, .int .i64 b, .int .i64 c, .string k, .slice a1 n1 c1] 24)
    have HF2 := Lib.hid ((HF1.out.mod hm2).mod ((Mod.refl w2 []).alloc (.cells #[.int .i64 a, .int .i64 b, .int .i64 c, .string k, .slice a1 n1 c1] 24)))
    have HG2 := Lib.hid (hf2.mod ((Mod.refl w2 []).alloc (.cells #[.int .i64 a, .int .i64 b, .int .i64 c, .string k, .slice a1 n1 c1] 24)))
    clear hm2 hf2 HB1 HM1 HF1
    go_wp2_with fail
    generalize w2.alloc _ = W at HM2 HB2 HX2 HF2 HG2 ⊢
    refine He.wp_region_e 9 (fun w' => (w'.cell? ⟨w2.heap.size, 0, none⟩ = some (.int .i64 a) ∧ w'.cell? ⟨w2.heap.size, 1, none⟩ = some (.int .i64 b) ∧ w'.cell? ⟨w2.heap.size, 2, none⟩ = some (.int .i64 c) ∧ w'.cell? ⟨w2.heap.size, 3, none⟩ = some (.string k) ∧ w'.cell? ⟨w2.heap.size, 4, none⟩ = some (.slice a1 n1 c1)) ∧ w'.cell? ⟨w.heap.size, 0, none⟩ = some (.int .i64 a) ∧ w'.cell? ⟨w.heap.size, 1, none⟩ = some (.int .i64 b) ∧ w'.cell? ⟨w.heap.size, 2, none⟩ = some (.int .i64 c) ∧ w'.cell? ⟨w.heap.size, 3, none⟩ = some (.string k) ∧ w'.cell? ⟨w.heap.size, 4, none⟩ = some (.slice ad l.length cap)) (by kernel_rfl) ⟨Blk5 HX2.out, Blk5 HB2.out⟩ (fun S0 => ?_)
    refine He.wpE_take (i := 0) (v := ?_) rfl (by kernel_rfl) (by kernel_rfl) (by kernel_rfl) (by kernel_rfl) (by kernel_rfl) (fun _ _ _ h => h) (by rfl) ?_ (by assumption) ?_
    rotate_left
    · (intro w' hSw; (try dsimp only at hSw); go_simp; first | done | with_reducible rfl)
    try simp only [List.getElem_toArray, List.getElem_cons_succ, List.getElem_cons_zero, Act.put, List.setIfInBounds_toArray, List.set_cons_zero, List.set_cons_succ]
    refine He.wpE_take (i := 1) (v := ?_) rfl (by kernel_rfl) (by kernel_rfl) (by kernel_rfl) (by kernel_rfl) (by kernel_rfl) (fun _ _ _ h => h) (by rfl) ?_ (by assumption) ?_
    rotate_left
    · (intro w' hSw; (try dsimp only at hSw); go_simp; first | done | with_reducible rfl)
    try simp only [List.getElem_toArray, List.getElem_cons_succ, List.getElem_cons_zero, Act.put, List.setIfInBounds_toArray, List.set_cons_zero, List.set_cons_succ]
    refine He.wpE_take (i := 2) (v := ?_) rfl (by kernel_rfl) (by kernel_rfl) (by kernel_rfl) (by kernel_rfl) (by kernel_rfl) (fun _ _ _ h => h) (by rfl) ?_ (by assumption) ?_
    rotate_left
    · (intro w' hSw; (try dsimp only at hSw); go_simp; first | done | with_reducible rfl)
    try simp only [List.getElem_toArray, List.getElem_cons_succ, List.getElem_cons_zero, Act.put, List.setIfInBounds_toArray, List.set_cons_zero, List.set_cons_succ]
    refine He.wpE_take (i := 3) (v := ?_) rfl (by kernel_rfl) (by kernel_rfl) (by kernel_rfl) (by kernel_rfl) (by kernel_rfl) (fun _ _ _ h => h) (by rfl) ?_ (by assumption) ?_
    rotate_left
    · (intro w' hSw; (try dsimp only at hSw); go_simp; first | done | with_reducible rfl)
    try simp only [List.getElem_toArray, List.getElem_cons_succ, List.getElem_cons_zero, Act.put, List.setIfInBounds_toArray, List.set_cons_zero, List.set_cons_succ]
    refine He.wpE_take (i := 5) (v := ?_) rfl (by kernel_rfl) (by kernel_rfl) (by kernel_rfl) (by kernel_rfl) (by kernel_rfl) (fun _ _ _ h => h) (by rfl) ?_ (by assumption) ?_
    rotate_left
    · (intro w' hSw; (try dsimp only at hSw); go_simp; first | done | with_reducible rfl)
    try simp only [List.getElem_toArray, List.getElem_cons_succ, List.getElem_cons_zero, Act.put, List.setIfInBounds_toArray, List.set_cons_zero, List.set_cons_succ]
    refine He.wpE_one (i := 4) (by kernel_rfl) rfl (by rfl) (fun K hK => ?_)
    go_simp
    refine (RC1.out _ _ (HG2.out.mod ((Mod.refl W []).drew))).mono ?_
    rintro e w4 ⟨v4, rfl, hm4, hf4⟩
    have S1' := keepR hm4 S0
    have HMA := Lib.hid (HM2.out.drew.trans0 hm4)
    have HFA := Lib.hid (HF2.out.mod (((Mod.refl W []).drew).trans0 hm4))
    have HRA := Lib.hid hf4
    refine hK.out _ _ (fun _ => S1') ?_
    clear hK K hm4 hf4
    try simp only [Act.put, List.setIfInBounds_toArray, List.set_cons_zero, List.set_cons_succ]
    refine He.wpE_one (i := 6) (by kernel_rfl) rfl (by rfl) (fun K hK => ?_)
    go_simp
    refine (RC2.out _ _ HFA.out).mono ?_
    rintro e w5 ⟨v5, rfl, hm5, hf5⟩
    have S2 := keepR hm5 S1'
    have HMB := Lib.hid (HMA.out.trans0 hm5)
    have HRB := Lib.hid (HRA.out.mod hm5)
    have HQB := Lib.hid hf5
    refine hK.out _ _ (fun _ => S2) ?_
    clear hK K hm5 hf5
    try simp only [Act.put, List.setIfInBounds_toArray, List.set_cons_zero, List.set_cons_succ]
    refine He.wpE_one (i := 7) (by kernel_rfl) rfl (by rfl) (fun K hK => ?_)
    go_simp
    refine (SC.out _ _ _ HRB.out HQB.out).mono ?_
    rintro e w6 ⟨rfl, hm6⟩
    have S3 := keepR hm6 S2
    have HMC := Lib.hid (HMB.out.trans0 hm6)
    refine hK.out _ _ (fun _ => S3) ?_
    clear hK K hm6 S0 S1' S2
    try simp only [Act.put, List.setIfInBounds_toArray, List.set_cons_zero, List.set_cons_succ]
    refine He.wpE_take (i := 8) (v := ?_) rfl (by kernel_rfl) (by kernel_rfl) (by kernel_rfl) (by kernel_rfl) (by kernel_rfl) (fun _ _ _ h => h) (by rfl) ?_ (by assumption) ?_
    rotate_left
    · (intro w' hSw; (try dsimp only at hSw); go_simp; first | done | with_reducible rfl)
    try simp only [List.getElem_toArray, List.getElem_cons_succ, List.getElem_cons_zero, Act.put, List.setIfInBounds_toArray, List.set_cons_zero, List.set_cons_succ]
    refine He.wpE_take (i := 9) (v := ?_) rfl (by kernel_rfl) (by kernel_rfl) (by kernel_rfl) (by kernel_rfl) (by kernel_rfl) (fun _ _ _ h => h) (by rfl) ?_ (by assumption) ?_
    rotate_left
    · (intro w' hSw; (try dsimp only at hSw); go_simp; first | done | with_reducible rfl)
    try simp only [List.getElem_toArray, List.getElem_cons_succ, List.getElem_cons_zero, Act.put, List.setIfInBounds_toArray, List.set_cons_zero, List.set_cons_succ]
    refine He.wpE_done (by kernel_rfl) ?_
    obtain ⟨-, b0, b1, b2, b3, b4⟩ := S3
    try simp only [Act.put, List.setIfInBounds_toArray, List.set_cons_zero, List.set_cons_succ]
    go_wp2_with fail
    refine (D2.out _).mono ?_
    rintro e w11 ⟨v11, rfl, hm11, hf11⟩
    obtain ⟨a2, n2, c2, rfl⟩ := flds_slice hf11
    have HM11 := Lib.hid (HMC.out.trans0 hm11)
    have HF11 := Lib.hid hf11
    clear hm11 hf11
    cases ho : okD s
    · obtain ⟨o1, o2⟩ := outD_bad ho
      rw [o1] at HF11 ⊢
      rw [o2]
      have RC0 := Lib.hid (fun sl w hf => ref_calls 0 0 0 ⟨#[]⟩ sl [] (by decide) w hf)
      have SC0 := Lib.hid (fun sl sl' w hf hf' => same_calls 0 0 0 ⟨#[]⟩ sl sl' [] (by decide) w hf hf')
      dsimp only [zeroD] at HF11 ⊢
      clear ho o1 o2 b0 b1 b2 b3 b4
      go_wp2_with fail
      refine (AW.out _).mono ?_
      rintro e w12 ⟨rfl, hm12⟩
      have HM12 := Lib.hid ((HM11.out.alloc (.cells #[.int .i64 0, .int .i64 0, .int .i64 0, .string ⟨#[]⟩, .slice a2 n2 c2] 24)).trans0 hm12)
      have HF12 := Lib.hid ((HF11.out.mod ((Mod.refl w11 []).alloc (.cells #[.int .i64 0, .int .i64 0, .int .i64 0, .string ⟨#[]⟩, .slice a2 n2 c2] 24))).mod hm12)
      obtain ⟨b0, b1, b2, b3, b4⟩ := Blk5 ((Blk.new w11 #[.int .i64 0, .int .i64 0, .int .i64 0, .string ⟨#[]⟩, .slice a2 n2 c2] 24).mod hm12 (by simp))
      clear hm12
      go_wp2_with fail
      refine (RC0.out _ _ HF12.out).mono ?_
      rintro e w13 ⟨v13, rfl, hm13, hf13⟩
      have HM13 := Lib.hid (HM12.out.trans0 hm13)
      have HF13 := Lib.hid hf13
      clear hm13 hf13
      go_wp2_with fail
      refine (SC0.out _ _ _ HF13.out (.inl ⟨rfl, none, 0, rfl⟩)).mono ?_
      rintro e w14 ⟨rfl, hm14⟩
      have HM14 := Lib.hid (HM13.out.trans0 hm14)
      clear hm14
      go_wp2_with fail
      go_ret
      exact ⟨rfl, HM14.out.below0⟩
    · obtain ⟨o1, o2⟩ := outD_good ho
      obtain ⟨r1, r2⟩ := back_read s ho
      obtain ⟨-, -, -, rk, rl, -⟩ := check_parts _ _ _ _ _ r1
      have rok : ∀ x ∈ (rawD s).l, FldOK x := gD_ok s (by omega)
      have hcc := checkR_good r1
      have hee : encR (rawD s).a (rawD s).b (rawD s).c (rawD s).k (rawD s).l = s := by unfold encR; rw [r1, if_pos rfl]; exact r2
      have E3 := Lib.hid (fun sl w hf => encode_calls (rawD s).a (rawD s).b (rawD s).c (rawD s).k (by omega) sl (rawD s).l rok (by omega) w hf)
      rw [hcc, hee] at E3
      rw [o1] at HF11 ⊢
      rw [o2]
      have hss : (s.toList == s.toList) = true := by simp
      clear ho o1 o2 r1 r2 rk rl rok hcc hee b0 b1 b2 b3 b4
      generalize rawD s = D at *
      obtain ⟨da, db, dc, dk, dl⟩ := D
      dsimp only at HF11 E3 ⊢
      go_wp2_with fail
      refine (E3.out _ _ (HF11.out.mod ((Mod.refl w11 []).alloc (.cells #[.int .i64 da, .int .i64 db, .int .i64 dc, .string dk, .slice a2 n2 c2] 24)))).mono ?_
      rintro e w12 ⟨rfl, hm12⟩
      have HM12 := Lib.hid ((HM11.out.alloc (.cells #[.int .i64 da, .int .i64 db, .int .i64 dc, .string dk, .slice a2 n2 c2] 24)).trans0 hm12)
      clear hm12
      go_wp2_with fail
      refine (AW.out _).mono ?_
      rintro e w13 ⟨rfl, hm13⟩
      have HM13 := Lib.hid (HM12.out.trans0 hm13)
      clear hm13
      go_wp2_with fail
      go_ret
      exact ⟨rfl, HM13.out.below0⟩
end Go.Proofs.Ytdmipmkgoefidaa.Ev
