/- The law EventChecks. -/
import Derived.Test.YtdmipmkgoefidaaEvT
namespace Go.Proofs.Ytdmipmkgoefidaa.Ev
open Go.RowKit Mem Bits EvH
set_option linter.unusedSimpArgs false
set_option linter.unusedVariables false
set_option maxRecDepth 100000

theorem keep5 {a b : World} (m : Mod a b []) {g : Nat} {v0 v1 v2 v3 v4 : Value} (h : a.cell? ⟨g, 0, none⟩ = some v0 ∧ a.cell? ⟨g, 1, none⟩ = some v1 ∧ a.cell? ⟨g, 2, none⟩ = some v2 ∧ a.cell? ⟨g, 3, none⟩ = some v3 ∧ a.cell? ⟨g, 4, none⟩ = some v4) :
    b.cell? ⟨g, 0, none⟩ = some v0 ∧ b.cell? ⟨g, 1, none⟩ = some v1 ∧ b.cell? ⟨g, 2, none⟩ = some v2 ∧ b.cell? ⟨g, 3, none⟩ = some v3 ∧ b.cell? ⟨g, 4, none⟩ = some v4 :=
  ⟨keepC m h.1, keepC m h.2.1, keepC m h.2.2.1, keepC m h.2.2.2.1, keepC m h.2.2.2.2⟩

set_option maxHeartbeats 2000000 in
theorem eventChecks_calls (w : World) (ca : Array Value) (ha : Open.Rd w evSh ca.toList) (s : ByteArray) (hs : s.size ≤ 140737488351232) :
    Calls Try.prog 3 #[.agg ca, .string s] w fun e w' => e = .returned (.bool true) ∧ Below w.heap.size w w' := by
  obtain ⟨a, b, c, k, sl, l, ea, ok⟩ := ev_rd ha
  obtain rfl := arr_of ea
  obtain ⟨ad, cap, hsl⟩ := ok.shape
  have hln := ok.n
  have AW := Lib.hid awake_calls
  have HF := Lib.hid ok.f
  have HB0 := Lib.hid (Blk.new w #[.int .i64 a, .int .i64 b, .int .i64 c, .string k, sl] 24)
  have HM0 := Lib.hid ((Mod.refl w []).alloc (.cells #[.int .i64 a, .int .i64 b, .int .i64 c, .string k, sl] 24))
  have HS := Lib.hid hsl
  by_cases h100 : 100 < l.length
  · have h' : 100 < (l.length : Int) := by omega
    subst hsl
    clear ok ea ha h100
    go_enter Try.func3, Try.ntmps3
    go_wp2_with fail
    refine (AW.out _).mono ?_
    rintro e w1 ⟨rfl, hm1⟩
    go_wp2_with fail
    go_ret
    exact ⟨rfl, (HM0.out.trans0 hm1).below0⟩
  · have h' : (l.length : Int) ≤ 100 := by omega
    have C1 := Lib.hid (fun w hf => check_calls a b c k ok.kz sl l ok.ok (by omega) w hf)
    have C2 := Lib.hid (fun w v hf => refcheck_calls a b c k ok.kz v l ok.ok (by omega) w hf)
    have RC := Lib.hid (fun w hf => ref_calls a b c k sl l (by omega) w hf)
    have W1 := Lib.hid (fun w => word_calls s (by omega) w)
    have W2 := Lib.hid (fun w => refword_calls s (by omega) w)
    generalize checkR a b c k l = R1 at *
    generalize wordB s = xw at *
    have hxw : (xw == xw) = true := by simp
    have hr1 : (R1 == R1) = true := by simp
    clear ok ea ha h100
    subst hsl
    go_enter Try.func3, Try.ntmps3
    go_wp2_with fail
    generalize w.alloc _ = W at HB0 HM0 ⊢
    obtain ⟨b0, b1, b2, b3, b4⟩ := Blk5 HB0.out
    refine He.wp_region_e 16 (fun w' => w'.cell? ⟨w.heap.size, 0, none⟩ = some (.int .i64 a) ∧ w'.cell? ⟨w.heap.size, 1, none⟩ = some (.int .i64 b) ∧ w'.cell? ⟨w.heap.size, 2, none⟩ = some (.int .i64 c) ∧ w'.cell? ⟨w.heap.size, 3, none⟩ = some (.string k) ∧ w'.cell? ⟨w.heap.size, 4, none⟩ = some (.slice ad l.length cap)) (by kernel_rfl) ⟨b0, b1, b2, b3, b4⟩ (fun S0 => ?_)
    refine He.wpE_one (i := 0) (by kernel_rfl) rfl (by rfl) (fun K hK => ?_)
    go_simp
    refine (AW.out _).mono ?_
    rintro e w1 ⟨rfl, hm1⟩
    have S1 := keep5 hm1 S0
    have HMA := Lib.hid (HM0.out.drew.trans0 hm1)
    refine hK.out _ _ (fun _ => S1) ?_
    clear hK K
    try simp only [Act.put, List.setIfInBounds_toArray, List.set_cons_zero, List.set_cons_succ]
    refine He.wpE_take (i := 1) (v := ?_) rfl (by kernel_rfl) (by kernel_rfl) (by kernel_rfl) (by kernel_rfl) (by kernel_rfl) (fun _ _ _ h => h) (by rfl) ?_ (by assumption) ?_
    rotate_left
    · (intro w' hSw; (try dsimp only at hSw); go_simp; first | done | with_reducible rfl)
    try simp only [List.getElem_toArray, List.getElem_cons_succ, List.getElem_cons_zero, Act.put, List.setIfInBounds_toArray, List.set_cons_zero, List.set_cons_succ]
    refine He.wpE_take (i := 2) (v := ?_) rfl (by kernel_rfl) (by kernel_rfl) (by kernel_rfl) (by kernel_rfl) (by kernel_rfl) (fun _ _ _ h => h) (by rfl) ?_ (by assumption) ?_
    rotate_left
    · (intro w' hSw; (try dsimp only at hSw); go_simp; first | done | with_reducible rfl)
    try simp only [List.getElem_toArray, List.getElem_cons_succ, List.getElem_cons_zero, Act.put, List.setIfInBounds_toArray, List.set_cons_zero, List.set_cons_succ]
    refine He.wpE_take (i := 4) (v := ?_) rfl (by kernel_rfl) (by kernel_rfl) (by kernel_rfl) (by kernel_rfl) (by kernel_rfl) (fun _ _ _ h => h) (by rfl) ?_ (by assumption) ?_
    rotate_left
    · (intro w' hSw; (try dsimp only at hSw); go_simp; first | done | with_reducible rfl)
    try simp only [List.getElem_toArray, List.getElem_cons_succ, List.getElem_cons_zero, Act.put, List.setIfInBounds_toArray, List.set_cons_zero, List.set_cons_succ]
    refine He.wpE_one (i := 3) (by kernel_rfl) rfl (by rfl) (fun K hK => ?_)
    go_simp
    refine (W1.out _).mono ?_
    rintro e w2 ⟨rfl, rfl⟩
    have S2 := keep5 (Mod.refl _ _) S1
    refine hK.out _ _ (fun _ => S2) ?_
    clear hK K
    try simp only [Act.put, List.setIfInBounds_toArray, List.set_cons_zero, List.set_cons_succ]
    refine He.wpE_one (i := 5) (by kernel_rfl) rfl (by rfl) (fun K hK => ?_)
    go_simp
    refine (W2.out _).mono ?_
    rintro e w3 ⟨rfl, rfl⟩
    have S3 := keep5 (Mod.refl _ _) S2
    refine hK.out _ _ (fun _ => S3) ?_
    clear hK K
    try simp only [Act.put, List.setIfInBounds_toArray, List.set_cons_zero, List.set_cons_succ]
    refine He.wpE_take (i := 6) (v := ?_) rfl (by kernel_rfl) (by kernel_rfl) (by kernel_rfl) (by kernel_rfl) (by kernel_rfl) (fun _ _ _ h => h) (by rfl) ?_ (by assumption) ?_
    rotate_left
    · (intro w' hSw; (try dsimp only at hSw); go_simp; first | done | with_reducible rfl)
    try simp only [List.getElem_toArray, List.getElem_cons_succ, List.getElem_cons_zero, Act.put, List.setIfInBounds_toArray, List.set_cons_zero, List.set_cons_succ]
    refine He.wpE_take (i := 7) (v := ?_) rfl (by kernel_rfl) (by kernel_rfl) (by kernel_rfl) (by kernel_rfl) (by kernel_rfl) (fun _ _ _ h => h) (by rfl) ?_ (by assumption) ?_
    rotate_left
    · (intro w' hSw; (try dsimp only at hSw); go_simp; first | done | with_reducible rfl)
    try simp only [List.getElem_toArray, List.getElem_cons_succ, List.getElem_cons_zero, Act.put, List.setIfInBounds_toArray, List.set_cons_zero, List.set_cons_succ]
    refine He.wpE_take (i := 8) (v := ?_) rfl (by kernel_rfl) (by kernel_rfl) (by kernel_rfl) (by kernel_rfl) (by kernel_rfl) (fun _ _ _ h => h) (by rfl) ?_ (by assumption) ?_
    rotate_left
    · (intro w' hSw; (try dsimp only at hSw); go_simp; first | done | with_reducible rfl)
    try simp only [List.getElem_toArray, List.getElem_cons_succ, List.getElem_cons_zero, Act.put, List.setIfInBounds_toArray, List.set_cons_zero, List.set_cons_succ]
    refine He.wpE_take (i := 9) (v := ?_) rfl (by kernel_rfl) (by kernel_rfl) (by kernel_rfl) (by kernel_rfl) (by kernel_rfl) (fun _ _ _ h => h) (by rfl) ?_ (by assumption) ?_
    rotate_left
    · (intro w' hSw; (try dsimp only at hSw); go_simp; first | done | with_reducible rfl)
    try simp only [List.getElem_toArray, List.getElem_cons_succ, List.getElem_cons_zero, Act.put, List.setIfInBounds_toArray, List.set_cons_zero, List.set_cons_succ]
    refine He.wpE_take (i := 11) (v := ?_) rfl (by kernel_rfl) (by kernel_rfl) (by kernel_rfl) (by kernel_rfl) (by kernel_rfl) (fun _ _ _ h => h) (by rfl) ?_ (by assumption) ?_
    rotate_left
    · (intro w' hSw; (try dsimp only at hSw); go_simp; first | done | with_reducible rfl)
    try simp only [List.getElem_toArray, List.getElem_cons_succ, List.getElem_cons_zero, Act.put, List.setIfInBounds_toArray, List.set_cons_zero, List.set_cons_succ]
    refine He.wpE_one (i := 10) (by kernel_rfl) rfl (by rfl) (fun K hK => ?_)
    go_simp
    refine (C1.out _ (HF.out.mod HMA.out)).mono ?_
    rintro e w4 ⟨rfl, hm4⟩
    have S4 := keep5 hm4 S3
    have HMB := Lib.hid (HMA.out.trans0 hm4)
    refine hK.out _ _ (fun _ => S4) ?_
    clear hK K
    try simp only [Act.put, List.setIfInBounds_toArray, List.set_cons_zero, List.set_cons_succ]
    refine He.wpE_one (i := 12) (by kernel_rfl) rfl (by rfl) (fun K hK => ?_)
    go_simp
    refine (RC.out _ (HF.out.mod HMB.out)).mono ?_
    rintro e w5 ⟨v5, rfl, hm5, hf5⟩
    have S5 := keep5 hm5 S4
    refine hK.out _ _ (fun _ => S5) ?_
    clear hK K
    try simp only [Act.put, List.setIfInBounds_toArray, List.set_cons_zero, List.set_cons_succ]
    refine He.wpE_one (i := 13) (by kernel_rfl) rfl (by rfl) (fun K hK => ?_)
    go_simp
    refine (C2.out _ _ hf5).mono ?_
    rintro e w6 ⟨rfl, hm6⟩
    have S6 := keep5 hm6 S5
    have HME := Lib.hid ((HMB.out.trans0 hm5).trans0 hm6)
    refine hK.out _ _ (fun _ => S6) ?_
    clear hK K
    try simp only [Act.put, List.setIfInBounds_toArray, List.set_cons_zero, List.set_cons_succ]
    refine He.wpE_take (i := 14) (v := ?_) rfl (by kernel_rfl) (by kernel_rfl) (by kernel_rfl) (by kernel_rfl) (by kernel_rfl) (fun _ _ _ h => h) (by rfl) ?_ (by assumption) ?_
    rotate_left
    · (intro w' hSw; (try dsimp only at hSw); go_simp; first | done | with_reducible rfl)
    try simp only [List.getElem_toArray, List.getElem_cons_succ, List.getElem_cons_zero, Act.put, List.setIfInBounds_toArray, List.set_cons_zero, List.set_cons_succ]
    refine He.wpE_take (i := 15) (v := ?_) rfl (by kernel_rfl) (by kernel_rfl) (by kernel_rfl) (by kernel_rfl) (by kernel_rfl) (fun _ _ _ h => h) (by rfl) ?_ (by assumption) ?_
    rotate_left
    · (intro w' hSw; (try dsimp only at hSw); go_simp; first | done | with_reducible rfl)
    try simp only [List.getElem_toArray, List.getElem_cons_succ, List.getElem_cons_zero, Act.put, List.setIfInBounds_toArray, List.set_cons_zero, List.set_cons_succ]
    refine He.wpE_take (i := 16) (v := ?_) rfl (by kernel_rfl) (by kernel_rfl) (by kernel_rfl) (by kernel_rfl) (by kernel_rfl) (fun _ _ _ h => h) (by rfl) ?_ (by assumption) ?_
    rotate_left
    · (intro w' hSw; (try dsimp only at hSw); go_simp; first | done | with_reducible rfl)
    try simp only [List.getElem_toArray, List.getElem_cons_succ, List.getElem_cons_zero, Act.put, List.setIfInBounds_toArray, List.set_cons_zero, List.set_cons_succ]
    refine He.wpE_done (by kernel_rfl) ?_
    try simp only [Act.put, List.setIfInBounds_toArray, List.set_cons_zero, List.set_cons_succ]
    go_wp2_with fail
    go_ret
    exact ⟨rfl, HME.out.below0⟩
end Go.Proofs.Ytdmipmkgoefidaa.Ev
