/- The law EventReads. -/
import Derived.Test.YtdmipmkgoefidaaEvA
import Derived.Test.YtdmipmkgoefidaaEvD6
namespace Go.Proofs.Ytdmipmkgoefidaa.Ev
open Go.RowKit Mem Bits EvH
set_option linter.unusedSimpArgs false
set_option linter.unusedVariables false
set_option maxRecDepth 100000

theorem flds_slice {w : World} {v : Value} {l : List Fld} (h : FldsAt w v l) : ∃ a n c, v = .slice a n c := by
  rcases h with ⟨_, a, c, rfl⟩ | ⟨g, o, c, rfl, _⟩ <;> exact ⟨_, _, _, rfl⟩
theorem outD_len (s : ByteArray) : (outD s).l.length ≤ 8 := by
  unfold outD
  split
  · have hb := limI_bd (nD s) 8
    show (gD s).1.length ≤ 8
    unfold gD
    rw [goT_len]
    omega
  · exact Nat.zero_le _
theorem keepR {a b : World} (m : Mod a b []) {g g' : Nat} {v0 v1 v2 v3 v4 u0 u1 u2 u3 u4 : Value} (h : (a.cell? ⟨g, 0, none⟩ = some v0 ∧ a.cell? ⟨g, 1, none⟩ = some v1 ∧ a.cell? ⟨g, 2, none⟩ = some v2 ∧ a.cell? ⟨g, 3, none⟩ = some v3 ∧ a.cell? ⟨g, 4, none⟩ = some v4) ∧ a.cell? ⟨g', 0, none⟩ = some u0 ∧ a.cell? ⟨g', 1, none⟩ = some u1 ∧ a.cell? ⟨g', 2, none⟩ = some u2 ∧ a.cell? ⟨g', 3, none⟩ = some u3 ∧ a.cell? ⟨g', 4, none⟩ = some u4) :
    (b.cell? ⟨g, 0, none⟩ = some v0 ∧ b.cell? ⟨g, 1, none⟩ = some v1 ∧ b.cell? ⟨g, 2, none⟩ = some v2 ∧ b.cell? ⟨g, 3, none⟩ = some v3 ∧ b.cell? ⟨g, 4, none⟩ = some v4) ∧ b.cell? ⟨g', 0, none⟩ = some u0 ∧ b.cell? ⟨g', 1, none⟩ = some u1 ∧ b.cell? ⟨g', 2, none⟩ = some u2 ∧ b.cell? ⟨g', 3, none⟩ = some u3 ∧ b.cell? ⟨g', 4, none⟩ = some u4 :=
  ⟨⟨keepC m h.1.1, keepC m h.1.2.1, keepC m h.1.2.2.1, keepC m h.1.2.2.2.1, keepC m h.1.2.2.2.2⟩, keepC m h.2.1, keepC m h.2.2.1, keepC m h.2.2.2.1, keepC m h.2.2.2.2.1, keepC m h.2.2.2.2.2⟩

set_option maxHeartbeats 2000000 in
theorem eventReads_calls (w : World) (s : ByteArray) (hs : s.size ≤ 140737488351232) :
    Calls Try.prog 8 #[.string s] w fun e w' => e = .returned (.bool true) ∧ Below w.heap.size w w' := by
  have AW := Lib.hid awake_calls
  by_cases h5 : 5000 < s.size
  · have h' : 5000 < (s.size : Int) := by omega
    clear h5
    go_enter Try.func8, Try.ntmps8
    go_wp2_with fail
    refine (AW.out _).mono ?_
    rintro e w1 ⟨rfl, hm1⟩
    go_wp2_with fail
    go_ret
    exact ⟨rfl, hm1.below0⟩
  · have h' : (s.size : Int) ≤ 5000 := by omega
    have D1 := Lib.hid (fun w => decode_calls s (by omega) w)
    have D2 := Lib.hid (fun w => rdecode_calls s (by omega) w)
    have hl := outD_len s
    generalize outD s = D at *
    generalize errD s = g at *
    obtain ⟨a, b, c, k, l⟩ := D
    dsimp only at D1 D2 hl
    have RC := Lib.hid (fun sl w hf => ref_calls a b c k sl l (by omega) w hf)
    have SC := Lib.hid (fun sl sl' w hf hf' => same_calls a b c k sl sl' l (by omega) w hf hf')
    have hg : (g == g) = true := by simp
    clear h5 hl
    go_enter Try.func8, Try.ntmps8
    go_wp2_with fail
    refine (D1.out _).mono ?_
    rintro e w1 ⟨v1, rfl, hm1, hf1⟩
    obtain ⟨a1, n1, c1, rfl⟩ := flds_slice hf1
    have HM1 := Lib.hid hm1
    have HF1 := Lib.hid hf1
    clear hm1 hf1
    go_wp2_with fail
    refine (D2.out _).mono ?_
    rintro e w2 ⟨v2, rfl, hm2, hf2⟩
    obtain ⟨a2, n2, c2, rfl⟩ := flds_slice hf2
    have HM2 := Lib.hid ((HM1.out.alloc (.cells #[.int .i64 a, .int .i64 b, .int .i64 c, .string k, .slice a1 n1 c1] 24)).trans0 hm2)
    have HE2 := Lib.hid ((Blk.new w1 #[.int .i64 a, .int .i64 b, .int .i64 c, .string k, .slice a1 n1 c1] 24).mod hm2 (by simp))
    have HF2 := Lib.hid ((HF1.out.mod ((Mod.refl w1 []).alloc (.cells #[.int .i64 a, .int .i64 b, .int .i64 c, .string k, .slice a1 n1 c1] 24))).mod hm2)
    have HG2 := Lib.hid hf2
    clear hm2 hf2
    go_wp2_with fail
    have HM3 := Lib.hid (HM2.out.alloc (.cells #[.int .i64 a, .int .i64 b, .int .i64 c, .string k, .slice a2 n2 c2] 32))
    have HE3 := Lib.hid (HE2.out.alloc (.cells #[.int .i64 a, .int .i64 b, .int .i64 c, .string k, .slice a2 n2 c2] 32))
    have HX3 := Lib.hid (Blk.new w2 #[.int .i64 a, .int .i64 b, .int .i64 c, .string k, .slice a2 n2 c2] 32)
    have HF3 := Lib.hid (HF2.out.mod ((Mod.refl w2 []).alloc (.cells #[.int .i64 a, .int .i64 b, .int .i64 c, .string k, .slice a2 n2 c2] 32)))
    have HG3 := Lib.hid (HG2.out.mod ((Mod.refl w2 []).alloc (.cells #[.int .i64 a, .int .i64 b, .int .i64 c, .string k, .slice a2 n2 c2] 32)))
    clear HM1 HM2 HE2 HF1 HF2 HG2
    generalize w2.alloc _ = W at HM3 HE3 HX3 HF3 HG3 ⊢
    refine He.wp_region_e 12 (fun w' => (w'.cell? ⟨w1.heap.size, 0, none⟩ = some (.int .i64 a) ∧ w'.cell? ⟨w1.heap.size, 1, none⟩ = some (.int .i64 b) ∧ w'.cell? ⟨w1.heap.size, 2, none⟩ = some (.int .i64 c) ∧ w'.cell? ⟨w1.heap.size, 3, none⟩ = some (.string k) ∧ w'.cell? ⟨w1.heap.size, 4, none⟩ = some (.slice a1 n1 c1)) ∧ w'.cell? ⟨w2.heap.size, 0, none⟩ = some (.int .i64 a) ∧ w'.cell? ⟨w2.heap.size, 1, none⟩ = some (.int .i64 b) ∧ w'.cell? ⟨w2.heap.size, 2, none⟩ = some (.int .i64 c) ∧ w'.cell? ⟨w2.heap.size, 3, none⟩ = some (.string k) ∧ w'.cell? ⟨w2.heap.size, 4, none⟩ = some (.slice a2 n2 c2)) (by kernel_rfl) ⟨Blk5 HE3.out, Blk5 HX3.out⟩ (fun S0 => ?_)
    refine He.wpE_one (i := 0) (by kernel_rfl) rfl (by rfl) (fun K hK => ?_)
    go_simp
    refine (AW.out _).mono ?_
    rintro e w4 ⟨rfl, hm4⟩
    have S1 := keepR hm4 S0
    have HMA := Lib.hid (HM3.out.drew.trans0 hm4)
    have HFA := Lib.hid (HF3.out.mod (((Mod.refl W []).drew).trans0 hm4))
    have HGA := Lib.hid (HG3.out.mod (((Mod.refl W []).drew).trans0 hm4))
    refine hK.out _ _ (fun _ => S1) ?_
    clear hK K hm4
    try simp only [Act.put, List.setIfInBounds_toArray, List.set_cons_zero, List.set_cons_succ]
    refine He.wpE_take (i := 1) (v := ?_) rfl (by kernel_rfl) (by kernel_rfl) (by kernel_rfl) (by kernel_rfl) (by kernel_rfl) (fun _ _ _ h => h) (by rfl) ?_ (by assumption) ?_
    rotate_left
    · (intro w' hSw; (try dsimp only at hSw); go_simp; first | done | with_reducible rfl)
    try simp only [List.getElem_toArray, List.getElem_cons_succ, List.getElem_cons_zero, Act.put, List.setIfInBounds_toArray, List.set_cons_zero, List.set_cons_succ]
    refine He.wpE_take (i := 2) (v := ?_) rfl (by kernel_rfl) (by kernel_rfl) (by kernel_rfl) (by kernel_rfl) (by kernel_rfl) (fun _ _ _ h => h) (by rfl) ?_ (by assumption) ?_
    rotate_left
    · (intro w' hSw; (try dsimp only at hSw); go_simp; first | done | with_reducible rfl)
    try simp only [List.getElem_toArray, List.getElem_cons_succ, List.getElem_cons_zero, Act.put, List.setIfInBounds_toArray, List.set_cons_zero, List.set_cons_succ]
    refine He.wpE_take (i := 4) (v := ?_) rfl (by kernel_rfl) (by kernel_rfl) (by kernel_rfl) (by kernel_rfl) (by kernel_rfl) (fun _ _ _ h => h) (by rfl) ?_ (by assumption) ?_
    rotate_left
    · (intro w' hSw; (try dsimp only at hSw); go_simp; first | done | with_reducible rfl)
    try simp only [List.getElem_toArray, List.getElem_cons_succ, List.getElem_cons_zero, Act.put, List.setIfInBounds_toArray, List.set_cons_zero, List.set_cons_succ]
    refine He.wpE_one (i := 3) (by kernel_rfl) rfl (by rfl) (fun K hK => ?_)
    go_simp
    refine (RC.out _ _ HFA.out).mono ?_
    rintro e w5 ⟨v5, rfl, hm5, hf5⟩
    have S2 := keepR hm5 S1
    have HMB := Lib.hid (HMA.out.trans0 hm5)
    have HGB := Lib.hid (HGA.out.mod hm5)
    have HRB := Lib.hid hf5
    refine hK.out _ _ (fun _ => S2) ?_
    clear hK K hm5 hf5
    try simp only [Act.put, List.setIfInBounds_toArray, List.set_cons_zero, List.set_cons_succ]
    refine He.wpE_one (i := 5) (by kernel_rfl) rfl (by rfl) (fun K hK => ?_)
    go_simp
    refine (SC.out _ _ _ HRB.out HGB.out).mono ?_
    rintro e w6 ⟨rfl, hm6⟩
    have S3 := keepR hm6 S2
    have HMC := Lib.hid (HMB.out.trans0 hm6)
    refine hK.out _ _ (fun _ => S3) ?_
    clear hK K hm6
    try simp only [Act.put, List.setIfInBounds_toArray, List.set_cons_zero, List.set_cons_succ]
    refine He.wpE_take (i := 6) (v := ?_) rfl (by kernel_rfl) (by kernel_rfl) (by kernel_rfl) (by kernel_rfl) (by kernel_rfl) (fun _ _ _ h => h) (by rfl) ?_ (by assumption) ?_
    rotate_left
    · (intro w' hSw; (try dsimp only at hSw); go_simp; first | done | with_reducible rfl)
    try simp only [List.getElem_toArray, List.getElem_cons_succ, List.getElem_cons_zero, Act.put, List.setIfInBounds_toArray, List.set_cons_zero, List.set_cons_succ]
    refine He.wpE_take (i := 7) (v := ?_) rfl (by kernel_rfl) (by kernel_rfl) (by kernel_rfl) (by kernel_rfl) (by kernel_rfl) (fun _ _ _ h => h) (by rfl) ?_ (by assumption) ?_
    rotate_left
    · (intro w' hSw; (try dsimp only at hSw); go_simp; first | done | with_reducible rfl)
    try simp only [List.getElem_toArray, List.getElem_cons_succ, List.getElem_cons_zero, Act.put, List.setIfInBounds_toArray, List.set_cons_zero, List.set_cons_succ]
    refine He.wpE_take (i := 8) (v := ?_) rfl (by kernel_rfl) (by kernel_rfl) (by kernel_rfl) (by kernel_rfl) (by kernel_rfl) (fun _ _ _ h => h) (by rfl) ?_ (by assumption) ?_
    rotate_left
    · (intro w' hSw; (try dsimp only at hSw); go_simp; first | done | with_reducible rfl)
    try simp only [List.getElem_toArray, List.getElem_cons_succ, List.getElem_cons_zero, Act.put, List.setIfInBounds_toArray, List.set_cons_zero, List.set_cons_succ]
    refine He.wpE_take (i := 9) (v := ?_) rfl (by kernel_rfl) (by kernel_rfl) (by kernel_rfl) (by kernel_rfl) (by kernel_rfl) (fun _ _ _ h => h) (by rfl) ?_ (by assumption) ?_
    rotate_left
    · (intro w' hSw; (try dsimp only at hSw); go_simp; first | done | with_reducible rfl)
    try simp only [List.getElem_toArray, List.getElem_cons_succ, List.getElem_cons_zero, Act.put, List.setIfInBounds_toArray, List.set_cons_zero, List.set_cons_succ]
    refine He.wpE_take (i := 10) (v := ?_) rfl (by kernel_rfl) (by kernel_rfl) (by kernel_rfl) (by kernel_rfl) (by kernel_rfl) (fun _ _ _ h => h) (by rfl) ?_ (by assumption) ?_
    rotate_left
    · (intro w' hSw; (try dsimp only at hSw); go_simp; first | done | with_reducible rfl)
    try simp only [List.getElem_toArray, List.getElem_cons_succ, List.getElem_cons_zero, Act.put, List.setIfInBounds_toArray, List.set_cons_zero, List.set_cons_succ]
    refine He.wpE_take (i := 11) (v := ?_) rfl (by kernel_rfl) (by kernel_rfl) (by kernel_rfl) (by kernel_rfl) (by kernel_rfl) (fun _ _ _ h => h) (by rfl) ?_ (by assumption) ?_
    rotate_left
    · (intro w' hSw; (try dsimp only at hSw); go_simp; first | done | with_reducible rfl)
    try simp only [List.getElem_toArray, List.getElem_cons_succ, List.getElem_cons_zero, Act.put, List.setIfInBounds_toArray, List.set_cons_zero, List.set_cons_succ]
    refine He.wpE_take (i := 12) (v := ?_) rfl (by kernel_rfl) (by kernel_rfl) (by kernel_rfl) (by kernel_rfl) (by kernel_rfl) (fun _ _ _ h => h) (by rfl) ?_ (by assumption) ?_
    rotate_left
    · (intro w' hSw; (try dsimp only at hSw); go_simp; first | done | with_reducible rfl)
    try simp only [List.getElem_toArray, List.getElem_cons_succ, List.getElem_cons_zero, Act.put, List.setIfInBounds_toArray, List.set_cons_zero, List.set_cons_succ]
    refine He.wpE_done (by kernel_rfl) ?_
    try simp only [Act.put, List.setIfInBounds_toArray, List.set_cons_zero, List.set_cons_succ]
    go_wp2_with fail
    go_ret
    exact ⟨rfl, HMC.out.below0⟩
end Go.Proofs.Ytdmipmkgoefidaa.Ev
