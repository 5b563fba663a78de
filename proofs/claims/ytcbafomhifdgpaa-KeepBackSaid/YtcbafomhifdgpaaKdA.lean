/- The law KeepBack. -/
import Derived.Test.YtcbafomhifdgpaaKd5
import Derived.Test.YtcbafomhifdgpaaKd7
import Derived.Test.YtcbafomhifdgpaaKd9
import Derived.Test.YtcbafomhifdgpaaKe9
namespace Go.Proofs.Ytcbafomhifdgpaa.Ke
open Go.RowKit Mem Bits
set_option linter.unusedSimpArgs false
set_option linter.unusedVariables false
set_option maxRecDepth 100000
attribute [local go_sem ↓] Go.wp_at_zero Go.wp_at_succ
theorem keep8 {a b : World} (m : Mod a b []) {g g' : Nat} {v0 v1 v2 v3 u0 u1 u2 u3 : Value} (h : (a.cell? ⟨g, 0, none⟩ = some v0 ∧ a.cell? ⟨g, 1, none⟩ = some v1 ∧ a.cell? ⟨g, 2, none⟩ = some v2 ∧ a.cell? ⟨g, 3, none⟩ = some v3) ∧ a.cell? ⟨g', 0, none⟩ = some u0 ∧ a.cell? ⟨g', 1, none⟩ = some u1 ∧ a.cell? ⟨g', 2, none⟩ = some u2 ∧ a.cell? ⟨g', 3, none⟩ = some u3) :
    (b.cell? ⟨g, 0, none⟩ = some v0 ∧ b.cell? ⟨g, 1, none⟩ = some v1 ∧ b.cell? ⟨g, 2, none⟩ = some v2 ∧ b.cell? ⟨g, 3, none⟩ = some v3) ∧ b.cell? ⟨g', 0, none⟩ = some u0 ∧ b.cell? ⟨g', 1, none⟩ = some u1 ∧ b.cell? ⟨g', 2, none⟩ = some u2 ∧ b.cell? ⟨g', 3, none⟩ = some u3 :=
  ⟨⟨keepC m h.1.1, keepC m h.1.2.1, keepC m h.1.2.2.1, keepC m h.1.2.2.2⟩, keepC m h.2.1, keepC m h.2.2.1, keepC m h.2.2.2.1, keepC m h.2.2.2.2⟩

set_option maxHeartbeats 8000000 in
theorem keepBack_calls (w : World) (ca : Array Value) (ha : Open.Rd w trkSh ca.toList) (s : ByteArray) (hs : s.size ≤ 140737488351232) :
    Calls Try.prog 5 #[.agg ca, .string s] w fun e w' => e = .returned (.bool true) ∧ Below w.heap.size w w' := by
  obtain ⟨t, v, rfl, hr, ht, hlen, hp⟩ := trk_rd ha
  have FC := Lib.hid (fun w h => few_calls t v hlen hp w h)
  have WC := Lib.hid (fun w h => write_calls t v ht hp hlen w h)
  have AW := Lib.hid awake_calls
  have HR := Lib.hid hr
  have HB0 := Lib.hid (Blk.new w #[.int .i64 t.c, .int .i64 t.st, .int .i64 t.lo, v] 24)
  have HM0 := Lib.hid ((Mod.refl w []).alloc (.cells #[.int .i64 t.c, .int .i64 t.st, .int .i64 t.lo, v] 24))
  obtain ⟨sa, cap, rfl, -⟩ := hr.shape
  have K2 := Lib.hid (fun w => kread_calls s hs w)
  unfold ReadOut at K2
  have hss : (s.toList == s.toList) = true := by simp
  have hsz : 20000 < (s.size : Int) ∨ (s.size : Int) ≤ 20000 := by omega
  cases hB : trkB t
  case' false =>
    have e1 : outT t = ⟨#[]⟩ := by unfold outT; rw [if_neg (by simp [hB])]
    have e2 : errT t = 1 := by unfold errT; rw [if_neg (by simp [hB])]
    rw [e1, e2] at WC
    clear e1 e2 hB
  case' true =>
    have e1 : outT t = textT t := by unfold outT; rw [if_pos hB]
    have e2 : errT t = 0 := by unfold errT; rw [if_pos hB]
    rw [e1, e2] at WC
    have hP := trk_parts hB
    have hpp : ∀ r ∈ t.rs, r.ps.length ≤ 1000000 := fun r hr => by have := (hP.2.2.2.2 r hr).n1; omega
    have hnn : t.rs.length ≤ 1000000 := by have := hP.2.2.2.1; omega
    have htz : (textT t).size ≤ 140737488351232 := by have := trkT_size t hP.2.2.2.2 t.rs.length (Nat.le_refl _); have := hP.2.2.2.1; unfold textT; omega
    have K1 := Lib.hid (fun w => kread_calls (textT t) htz w)
    unfold ReadOut at K1
    rw [(back_write t ht hB).1, (back_write t ht hB).2] at K1
    have TC := Lib.hid (fun v w h => track_calls t v hnn w h)
    have SC := Lib.hid (fun va vb w ha hb => same_calls t va vb hnn hpp w ha hb)
    generalize textT t = TX at *
    clear hP hpp hnn htz e1 e2 hB
  all_goals
    go_enter Try.func5, Try.ntmps5
    go_wp2_with fail
    refine (FC.out _ ?_).mono ?_
    · exact HR.out.mod HM0.out
    rintro e w1 ⟨b, rfl, hm1, hb⟩
    have HM1 := Lib.hid (HM0.out.trans0 hm1)
    have HBX1 := Lib.hid (HB0.out.mod hm1 (by simp))
    obtain ⟨b0, b1, b2, b3⟩ := Blk4c HBX1.out
    clear hm1
    cases b
    case false =>
      clear hb
      go_wp2_with fail
      all_goals
        refine (AW.out _).mono ?_
        rintro e w2 ⟨rfl, hm2⟩
        have HM2 := Lib.hid (HM1.out.trans0 hm2)
        clear hm2
        go_wp2_with fail
        go_ret
        exact ⟨rfl, HM2.out.below0⟩
    clear hb
    rcases hsz with hsz | hsz
    case inl =>
      go_wp2_with fail
      refine (AW.out _).mono ?_
      rintro e w2 ⟨rfl, hm2⟩
      have HM2 := Lib.hid (HM1.out.trans0 hm2)
      clear hm2
      go_wp2_with fail
      go_ret
      exact ⟨rfl, HM2.out.below0⟩
    go_wp2_with fail
    refine (WC.out _ ?_).mono ?_
    · exact HR.out.mod HM1.out
    rintro e w2 ⟨rfl, hm2⟩
    have HM2 := Lib.hid (HM1.out.trans0 hm2)
    have HB2 := Lib.hid (HBX1.out.mod hm2 (by simp))
    obtain ⟨b0, b1, b2, b3⟩ := Blk4c HB2.out
    clear hm2 HM1 HBX1
    go_wp2_with fail
  · (with_reducible refine (K1.out _).mono ?_)
    rintro e w3 ⟨v3, rfl, hm3, hr3⟩
    obtain ⟨a3, c3, rfl, -⟩ := hr3.shape
    have HM3 := Lib.hid ((HM2.out.trans0 hm3).alloc (.cells #[.int .i64 t.c, .int .i64 t.st, .int .i64 t.lo, .slice a3 t.rs.length c3] 24))
    have HB3 := Lib.hid ((HB2.out.mod hm3 (by simp)).alloc (.cells #[.int .i64 t.c, .int .i64 t.st, .int .i64 t.lo, .slice a3 t.rs.length c3] 24))
    have HX3 := Lib.hid (Blk.new w3 #[.int .i64 t.c, .int .i64 t.st, .int .i64 t.lo, .slice a3 t.rs.length c3] 24)
    have HR3 := Lib.hid (hr3.mod ((Mod.refl w3 []).alloc (.cells #[.int .i64 t.c, .int .i64 t.st, .int .i64 t.lo, .slice a3 t.rs.length c3] 24)))
    clear hm3 hr3 HM2 HB2
    go_wp2_with fail
    generalize w3.alloc _ = W at HM3 HB3 HX3 HR3 ⊢
    refine He.wp_region_e 9 (fun w' => (w'.cell? ⟨w3.heap.size, 0, none⟩ = some (.int .i64 t.c) ∧ w'.cell? ⟨w3.heap.size, 1, none⟩ = some (.int .i64 t.st) ∧ w'.cell? ⟨w3.heap.size, 2, none⟩ = some (.int .i64 t.lo) ∧ w'.cell? ⟨w3.heap.size, 3, none⟩ = some (.slice a3 t.rs.length c3)) ∧ w'.cell? ⟨w.heap.size, 0, none⟩ = some (.int .i64 t.c) ∧ w'.cell? ⟨w.heap.size, 1, none⟩ = some (.int .i64 t.st) ∧ w'.cell? ⟨w.heap.size, 2, none⟩ = some (.int .i64 t.lo) ∧ w'.cell? ⟨w.heap.size, 3, none⟩ = some (.slice sa t.rs.length cap)) (by kernel_rfl) ⟨Blk4c HX3.out, Blk4c HB3.out⟩ (fun S0 => ?_)
    refine He.wpE_take (i := 0) (v := ?_) rfl (by kernel_rfl) (by kernel_rfl) (by kernel_rfl) (by kernel_rfl) (by kernel_rfl) (fun _ _ _ h => h) (by rfl) ?_ (by assumption) ?_
    rotate_left
    · (intro w' hSw; (try dsimp only at hSw); go_simp; first | done | with_reducible rfl)
    try simp only [List.getElem_toArray, List.getElem_cons_succ, List.getElem_cons_zero, Act.put, List.setIfInBounds_toArray, List.set_cons_zero, List.set_cons_succ]
    refine He.wpE_take (i := 1) (v := ?_) rfl (by kernel_rfl) (by kernel_rfl) (by kernel_rfl) (by kernel_rfl) (by kernel_rfl) (fun _ _ _ h => h) (by rfl) ?_ (by assumption) ?_
    rotate_left
    · (intro w' hSw; (try dsimp only at hSw); go_simp; first | done | with_reducible rfl)
    try simp only [List.getElem_toArray, List.getElem_cons_succ, List.getElem_cons_zero, Act.put, List.setIfInBounds_toArray, List.set_cons_zero, List.set_cons_succ]
    refine He.wpE_take (i := 2) (v := ?_) rfl (by kernel_rfl) (by kernel_rfl) (by kernel_rfl) (by kernel_rfl) (by kernel_rfl) (fun _ _ _ h => h) (by rfl) ?_ (by assumption) ?_
    rotate_left
    · (intro w' hSw; (try dsimp only at hSw); go_simp; first | done | with_reducible rfl)
    try simp only [List.getElem_toArray, List.getElem_cons_succ, List.getElem_cons_zero, Act.put, List.setIfInBounds_toArray, List.set_cons_zero, List.set_cons_succ]
    refine He.wpE_take (i := 3) (v := ?_) rfl (by kernel_rfl) (by kernel_rfl) (by kernel_rfl) (by kernel_rfl) (by kernel_rfl) (fun _ _ _ h => h) (by rfl) ?_ (by assumption) ?_
    rotate_left
    · (intro w' hSw; (try dsimp only at hSw); go_simp; first | done | with_reducible rfl)
    try simp only [List.getElem_toArray, List.getElem_cons_succ, List.getElem_cons_zero, Act.put, List.setIfInBounds_toArray, List.set_cons_zero, List.set_cons_succ]
    refine He.wpE_take (i := 5) (v := ?_) rfl (by kernel_rfl) (by kernel_rfl) (by kernel_rfl) (by kernel_rfl) (by kernel_rfl) (fun _ _ _ h => h) (by rfl) ?_ (by assumption) ?_
    rotate_left
    · (intro w' hSw; (try dsimp only at hSw); go_simp; first | done | with_reducible rfl)
    try simp only [List.getElem_toArray, List.getElem_cons_succ, List.getElem_cons_zero, Act.put, List.setIfInBounds_toArray, List.set_cons_zero, List.set_cons_succ]
    refine He.wpE_one (i := 4) (by kernel_rfl) rfl (by rfl) (fun K hK => ?_)
    go_simp
    (with_reducible refine (TC.out _ _ ?_).mono ?_)
    · exact HR3.out.mod ((Mod.refl W []).drew)
    rintro e w5 ⟨v5, rfl, hm5, hr5⟩
    have S2 := keep8 hm5 S0
    have HMB := Lib.hid (HM3.out.drew.trans0 hm5)
    have HRB := Lib.hid hr5
    refine hK.out _ _ (fun _ => S2) ?_
    clear hK K hm5 hr5
    try simp only [Act.put, List.setIfInBounds_toArray, List.set_cons_zero, List.set_cons_succ]
    refine He.wpE_one (i := 6) (by kernel_rfl) rfl (by rfl) (fun K hK => ?_)
    go_simp
    (with_reducible refine (TC.out _ _ ?_).mono ?_)
    · exact HR.out.mod HMB.out
    rintro e w6 ⟨v6, rfl, hm6, hr6⟩
    have S3 := keep8 hm6 S2
    have HMC := Lib.hid (HMB.out.trans0 hm6)
    have HRC := Lib.hid (HRB.out.mod hm6)
    have HRD := Lib.hid hr6
    refine hK.out _ _ (fun _ => S3) ?_
    clear hK K hm6 hr6
    try simp only [Act.put, List.setIfInBounds_toArray, List.set_cons_zero, List.set_cons_succ]
    refine He.wpE_one (i := 7) (by kernel_rfl) rfl (by rfl) (fun K hK => ?_)
    go_simp
    (with_reducible refine (SC.out _ _ _ ?_ ?_).mono ?_)
    · exact HRC.out
    · exact HRD.out
    rintro e w7 ⟨rfl, hm7⟩
    have S4 := keep8 hm7 S3
    have HMD := Lib.hid (HMC.out.trans0 hm7)
    refine hK.out _ _ (fun _ => S4) ?_
    clear hK K hm7
    try simp only [Act.put, List.setIfInBounds_toArray, List.set_cons_zero, List.set_cons_succ]
    refine He.wpE_take (i := 8) (v := ?_) rfl (by kernel_rfl) (by kernel_rfl) (by kernel_rfl) (by kernel_rfl) (by kernel_rfl) (fun _ _ _ h => h) (by rfl) ?_ (by assumption) ?_
    rotate_left
    · (intro w' hSw; (try dsimp only at hSw); go_simp; first | done | with_reducible rfl)
    try simp only [List.getElem_toArray, List.getElem_cons_succ, List.getElem_cons_zero, Act.put, List.setIfInBounds_toArray, List.set_cons_zero, List.set_cons_succ]
    refine He.wpE_take (i := 9) (v := ?_) rfl (by kernel_rfl) (by kernel_rfl) (by kernel_rfl) (by kernel_rfl) (by kernel_rfl) (fun _ _ _ h => h) (by rfl) ?_ (by assumption) ?_
    rotate_left
    · (intro w' hSw; (try dsimp only at hSw); go_simp; first | done | with_reducible rfl)
    try simp only [List.getElem_toArray, List.getElem_cons_succ, List.getElem_cons_zero, Act.put, List.setIfInBounds_toArray, List.set_cons_zero, List.set_cons_succ]
    refine He.wpE_done (by kernel_rfl) ?_
    try simp only [Act.put, List.setIfInBounds_toArray, List.set_cons_zero, List.set_cons_succ]
    go_wp2_with fail
    (with_reducible refine (K2.out _).mono ?_)
    rintro e w11 ⟨v11, rfl, hm11, hr11⟩
    obtain ⟨a11, c11, rfl, -⟩ := hr11.shape
    cases hO : kOK s
    · have o1 : outD s = zeroT := by unfold outD; rw [if_neg (by simp [hO])]
      have o2 : errD s = 3 := by unfold errD; rw [if_neg (by simp [hO])]
      have HMZ := Lib.hid ((HMD.out.trans0 hm11).alloc (.cells #[.int .i64 0, .int .i64 0, .int .i64 0, .slice a11 0 c11] 24))
      have HBZ := Lib.hid (Blk.new w11 #[.int .i64 0, .int .i64 0, .int .i64 0, .slice a11 0 c11] 24)
      rw [o1, o2]
      dsimp only [zeroT, List.length_nil]
      clear hm11 hr11 o1 o2 hO
      go_wp2_with fail
      refine (AW.out _).mono ?_
      rintro e w12 ⟨rfl, hm12⟩
      have HM12 := Lib.hid (HMZ.out.trans0 hm12)
      obtain ⟨b0, b1, b2, b3⟩ := Blk4c (HBZ.out.mod hm12 (by simp))
      clear hm12
      go_wp2_with fail
      go_ret
      exact ⟨rfl, HM12.out.below0⟩
    · have o1 : outD s = kT s := by unfold outD; rw [if_pos hO]
      have o2 : errD s = 0 := by unfold errD; rw [if_pos hO]
      obtain ⟨o3, o4⟩ := back_read s hO
      obtain ⟨k1, k2, k3⟩ := kT_ok s
      have W2 := Lib.hid (fun v w h => write_calls (kT s) v k1 k2 (by omega) w h)
      have o5 : outT (kT s) = s := by unfold outT; rw [if_pos o4, o3]
      have o6 : errT (kT s) = 0 := by unfold errT; rw [if_pos o4]
      rw [o5, o6] at W2
      rw [o1] at hr11
      rw [o1, o2]
      have HM11 := Lib.hid ((HMD.out.trans0 hm11).alloc (.cells #[.int .i64 (kT s).c, .int .i64 (kT s).st, .int .i64 (kT s).lo, .slice a11 (kT s).rs.length c11] 24))
      have HR11 := Lib.hid (hr11.mod ((Mod.refl w11 []).alloc (.cells #[.int .i64 (kT s).c, .int .i64 (kT s).st, .int .i64 (kT s).lo, .slice a11 (kT s).rs.length c11] 24)))
      clear hm11 hr11 o1 o2 o3 o4 o5 o6 hO k1 k2 k3
      go_wp2_with fail
      (with_reducible refine (W2.out _ _ ?_).mono ?_)
      · exact HR11.out
      rintro e w12 ⟨rfl, hm12⟩
      have HM12 := Lib.hid (HM11.out.trans0 hm12)
      clear hm12
      go_wp2_with fail
      refine (AW.out _).mono ?_
      rintro e w13 ⟨rfl, hm13⟩
      have HM13 := Lib.hid (HM12.out.trans0 hm13)
      clear hm13
      go_wp2_with fail
      go_ret
      exact ⟨rfl, HM13.out.below0⟩
  · (with_reducible refine (K2.out _).mono ?_)
    rintro e w11 ⟨v11, rfl, hm11, hr11⟩
    obtain ⟨a11, c11, rfl, -⟩ := hr11.shape
    cases hO : kOK s
    · have o1 : outD s = zeroT := by unfold outD; rw [if_neg (by simp [hO])]
      have o2 : errD s = 3 := by unfold errD; rw [if_neg (by simp [hO])]
      have HMZ := Lib.hid ((HM2.out.trans0 hm11).alloc (.cells #[.int .i64 0, .int .i64 0, .int .i64 0, .slice a11 0 c11] 24))
      have HBZ := Lib.hid (Blk.new w11 #[.int .i64 0, .int .i64 0, .int .i64 0, .slice a11 0 c11] 24)
      rw [o1, o2]
      dsimp only [zeroT, List.length_nil]
      clear hm11 hr11 o1 o2 hO
      go_wp2_with fail
      refine (AW.out _).mono ?_
      rintro e w12 ⟨rfl, hm12⟩
      have HM12 := Lib.hid (HMZ.out.trans0 hm12)
      obtain ⟨b0, b1, b2, b3⟩ := Blk4c (HBZ.out.mod hm12 (by simp))
      clear hm12
      go_wp2_with fail
      go_ret
      exact ⟨rfl, HM12.out.below0⟩
    · have o1 : outD s = kT s := by unfold outD; rw [if_pos hO]
      have o2 : errD s = 0 := by unfold errD; rw [if_pos hO]
      obtain ⟨o3, o4⟩ := back_read s hO
      obtain ⟨k1, k2, k3⟩ := kT_ok s
      have W2 := Lib.hid (fun v w h => write_calls (kT s) v k1 k2 (by omega) w h)
      have o5 : outT (kT s) = s := by unfold outT; rw [if_pos o4, o3]
      have o6 : errT (kT s) = 0 := by unfold errT; rw [if_pos o4]
      rw [o5, o6] at W2
      rw [o1] at hr11
      rw [o1, o2]
      have HM11 := Lib.hid ((HM2.out.trans0 hm11).alloc (.cells #[.int .i64 (kT s).c, .int .i64 (kT s).st, .int .i64 (kT s).lo, .slice a11 (kT s).rs.length c11] 24))
      have HR11 := Lib.hid (hr11.mod ((Mod.refl w11 []).alloc (.cells #[.int .i64 (kT s).c, .int .i64 (kT s).st, .int .i64 (kT s).lo, .slice a11 (kT s).rs.length c11] 24)))
      clear hm11 hr11 o1 o2 o3 o4 o5 o6 hO k1 k2 k3
      go_wp2_with fail
      (with_reducible refine (W2.out _ _ ?_).mono ?_)
      · exact HR11.out
      rintro e w12 ⟨rfl, hm12⟩
      have HM12 := Lib.hid (HM11.out.trans0 hm12)
      clear hm12
      go_wp2_with fail
      refine (AW.out _).mono ?_
      rintro e w13 ⟨rfl, hm13⟩
      have HM13 := Lib.hid (HM12.out.trans0 hm13)
      clear hm13
      go_wp2_with fail
      go_ret
      exact ⟨rfl, HM13.out.below0⟩
end Go.Proofs.Ytcbafomhifdgpaa.Ke
