/- The law KeepReads. -/
import Derived.Test.YtcbafomhifdgpaaKd6
import Derived.Test.YtcbafomhifdgpaaKd7
import Derived.Test.YtcbafomhifdgpaaKe9
namespace Go.Proofs.Ytcbafomhifdgpaa.Ke
open Go.RowKit Mem Bits
set_option linter.unusedSimpArgs false
set_option linter.unusedVariables false
set_option maxRecDepth 100000
attribute [local go_sem ↓] Go.wp_at_zero Go.wp_at_succ
theorem outD_small (s : ByteArray) : (outD s).rs.length ≤ 64 ∧ ∀ r ∈ (outD s).rs, r.ps.length ≤ 16 := by
  unfold outD
  split
  · have h := kT_ok s
    exact ⟨h.2.2, fun r hr => ((runsK_ok (kP s) (kM s).toNat).1 r hr).2⟩
  · exact ⟨Nat.zero_le _, by simp [zeroT]⟩
theorem keep8 {a b : World} (m : Mod a b []) {g g' : Nat} {v0 v1 v2 v3 u0 u1 u2 u3 : Value} (h : (a.cell? ⟨g, 0, none⟩ = some v0 ∧ a.cell? ⟨g, 1, none⟩ = some v1 ∧ a.cell? ⟨g, 2, none⟩ = some v2 ∧ a.cell? ⟨g, 3, none⟩ = some v3) ∧ a.cell? ⟨g', 0, none⟩ = some u0 ∧ a.cell? ⟨g', 1, none⟩ = some u1 ∧ a.cell? ⟨g', 2, none⟩ = some u2 ∧ a.cell? ⟨g', 3, none⟩ = some u3) :
    (b.cell? ⟨g, 0, none⟩ = some v0 ∧ b.cell? ⟨g, 1, none⟩ = some v1 ∧ b.cell? ⟨g, 2, none⟩ = some v2 ∧ b.cell? ⟨g, 3, none⟩ = some v3) ∧ b.cell? ⟨g', 0, none⟩ = some u0 ∧ b.cell? ⟨g', 1, none⟩ = some u1 ∧ b.cell? ⟨g', 2, none⟩ = some u2 ∧ b.cell? ⟨g', 3, none⟩ = some u3 :=
  ⟨⟨keepC m h.1.1, keepC m h.1.2.1, keepC m h.1.2.2.1, keepC m h.1.2.2.2⟩, keepC m h.2.1, keepC m h.2.2.1, keepC m h.2.2.2.1, keepC m h.2.2.2.2⟩

set_option maxHeartbeats 4000000 in
theorem keepReads_calls (w : World) (s : ByteArray) (hs : s.size ≤ 140737488351232) :
    Calls Try.prog 4 #[.string s] w fun e w' => e = .returned (.bool true) ∧ Below w.heap.size w w' := by
  have AW := Lib.hid awake_calls
  by_cases h2 : 20000 < (s.size : Int)
  · go_enter Try.func4, Try.ntmps4
    go_wp2_with fail
    refine (AW.out _).mono ?_
    rintro e w1 ⟨rfl, hm1⟩
    go_wp2_with fail
    go_ret
    exact ⟨rfl, hm1.below0⟩
  have h2' : (s.size : Int) ≤ 20000 := by omega
  have K1 := Lib.hid (fun w => kread_calls s hs w)
  have K2 := Lib.hid (fun w => rread_calls s hs w)
  obtain ⟨hl, hlp⟩ := outD_small s
  have TC := Lib.hid (fun v w h => track_calls (outD s) v (by omega) w h)
  have SC := Lib.hid (fun va vb w ha hb => same_calls (outD s) va vb (by omega) (fun r hr => by have := hlp r hr; omega) w ha hb)
  have hee : (errD s == errD s) = true := by simp
  unfold ReadOut at K1 K2
  generalize outD s = T at *
  generalize errD s = E at *
  clear h2 hl hlp
  go_enter Try.func4, Try.ntmps4
  go_wp2_with fail
  refine (K1.out _).mono ?_
  rintro e w1 ⟨v1, rfl, hm1, hr1⟩
  obtain ⟨a1, c1, rfl, -⟩ := hr1.shape
  have HM1 := Lib.hid (hm1.alloc (.cells #[.int .i64 T.c, .int .i64 T.st, .int .i64 T.lo, .slice a1 T.rs.length c1] 24))
  have HR1 := Lib.hid (hr1.mod ((Mod.refl w1 []).alloc (.cells #[.int .i64 T.c, .int .i64 T.st, .int .i64 T.lo, .slice a1 T.rs.length c1] 24)))
  have HB1 := Lib.hid (Blk.new w1 #[.int .i64 T.c, .int .i64 T.st, .int .i64 T.lo, .slice a1 T.rs.length c1] 24)
  clear hm1 hr1
  go_wp2_with fail
  refine (K2.out _).mono ?_
  rintro e w2 ⟨v2, rfl, hm2, hr2⟩
  obtain ⟨a2, c2, rfl, -⟩ := hr2.shape
  have HM2 := Lib.hid ((HM1.out.trans0 hm2).alloc (.cells #[.int .i64 T.c, .int .i64 T.st, .int .i64 T.lo, .slice a2 T.rs.length c2] 34))
  have HR2 := Lib.hid ((HR1.out.mod hm2).mod ((Mod.refl w2 []).alloc (.cells #[.int .i64 T.c, .int .i64 T.st, .int .i64 T.lo, .slice a2 T.rs.length c2] 34)))
  have HB2 := Lib.hid ((HB1.out.mod hm2 (by simp)).alloc (.cells #[.int .i64 T.c, .int .i64 T.st, .int .i64 T.lo, .slice a2 T.rs.length c2] 34))
  have HQ2 := Lib.hid (hr2.mod ((Mod.refl w2 []).alloc (.cells #[.int .i64 T.c, .int .i64 T.st, .int .i64 T.lo, .slice a2 T.rs.length c2] 34)))
  have HX2 := Lib.hid (Blk.new w2 #[.int .i64 T.c, .int .i64 T.st, .int .i64 T.lo, .slice a2 T.rs.length c2] 34)
  clear hm2 hr2 HM1 HR1 HB1
  go_wp2_with fail
  generalize w2.alloc _ = W at HM2 HR2 HB2 HQ2 HX2 ⊢
  refine He.wp_region_e 12 (fun w' => (w'.cell? ⟨w1.heap.size, 0, none⟩ = some (.int .i64 T.c) ∧ w'.cell? ⟨w1.heap.size, 1, none⟩ = some (.int .i64 T.st) ∧ w'.cell? ⟨w1.heap.size, 2, none⟩ = some (.int .i64 T.lo) ∧ w'.cell? ⟨w1.heap.size, 3, none⟩ = some (.slice a1 T.rs.length c1)) ∧ w'.cell? ⟨w2.heap.size, 0, none⟩ = some (.int .i64 T.c) ∧ w'.cell? ⟨w2.heap.size, 1, none⟩ = some (.int .i64 T.st) ∧ w'.cell? ⟨w2.heap.size, 2, none⟩ = some (.int .i64 T.lo) ∧ w'.cell? ⟨w2.heap.size, 3, none⟩ = some (.slice a2 T.rs.length c2)) (by kernel_rfl) ⟨Blk4c HB2.out, Blk4c HX2.out⟩ (fun S0 => ?_)
  refine He.wpE_one (i := 0) (by kernel_rfl) rfl (by rfl) (fun K hK => ?_)
  go_simp
  refine (AW.out _).mono ?_
  rintro e w4 ⟨rfl, hm4⟩
  have S1 := keep8 hm4 S0
  have HMA := Lib.hid (HM2.out.drew.trans0 hm4)
  have HRA := Lib.hid (HR2.out.mod (((Mod.refl W []).drew).trans0 hm4))
  have HQA := Lib.hid (HQ2.out.mod (((Mod.refl W []).drew).trans0 hm4))
  refine hK.out _ _ (fun _ => S1) ?_
  clear hK K hm4
  try simp only [Act.put, List.setIfInBounds_toArray, List.set_cons_zero, List.set_cons_succ]
  refine He.wpE_take (i := 1) (v := ?_) rfl (by kernel_rfl) (by kernel_rfl) (by kernel_rfl) (by kernel_rfl) (by kernel_rfl) (fun _ _ _ h => h) (by rfl) ?_ (by assumption) ?_
  rotate_left
  · (intro w' hSw; (try dsimp only at hSw); go_simp; first | done | with_reducible rfl)
  try simp only [List.getElem_toArray, List.getElem_cons_succ, List.getElem_cons_zero, Act.put, List.setIfInBounds_toArray, List.set_cons_zero, List.set_cons_succ]
  refine He.wpE_take (i := 2) (v := ?_) rfl (by kernel_rfl) (by kernel_rfl) (by kernel_rfl) (by kernel_rfl) (by kernel_rfl) (fun _ _ _ h => h) (by rfl) ?_ (by assumption) ?_
  rotate_left
  · (intro w' hSw; (try dsimp only at hSw); go_simp; first | done | with_reducible rfl)
  try simp only [List.getElem_toArray, List.getElem_cons_succ, List.getElem_cons_zero, Act.put, List.setIfInBounds_toArray, List.set_cons_zero, List.set_cons_succ]
  refine He.wpE_take (i := 4) (v := ?_) rfl (by kernel_rfl) (by kernel_rfl) (by kernel_rfl) (by kernel_rfl) (by kernel_rfl) (fun _ _ _ h => h) (by rfl) ?_ (by assumption) ?_
  rotate_left
  · (intro w' hSw; (try dsimp only at hSw); go_simp; first | done | with_reducible rfl)
  try simp only [List.getElem_toArray, List.getElem_cons_succ, List.getElem_cons_zero, Act.put, List.setIfInBounds_toArray, List.set_cons_zero, List.set_cons_succ]
  refine He.wpE_one (i := 3) (by kernel_rfl) rfl (by rfl) (fun K hK => ?_)
  go_simp
  (with_reducible refine (TC.out _ _ ?_).mono ?_)
  · exact HRA.out
  rintro e w5 ⟨v5, rfl, hm5, hr5⟩
  have S2 := keep8 hm5 S1
  have HMB := Lib.hid (HMA.out.trans0 hm5)
  have HRB := Lib.hid hr5
  have HQB := Lib.hid (HQA.out.mod hm5)
  refine hK.out _ _ (fun _ => S2) ?_
  clear hK K hm5 hr5
  try simp only [Act.put, List.setIfInBounds_toArray, List.set_cons_zero, List.set_cons_succ]
  refine He.wpE_one (i := 5) (by kernel_rfl) rfl (by rfl) (fun K hK => ?_)
  go_simp
  (with_reducible refine (SC.out _ _ _ ?_ ?_).mono ?_)
  · exact HRB.out
  · exact HQB.out
  rintro e w6 ⟨rfl, hm6⟩
  have S3 := keep8 hm6 S2
  have HMC := Lib.hid (HMB.out.trans0 hm6)
  refine hK.out _ _ (fun _ => S3) ?_
  clear hK K hm6
  try simp only [Act.put, List.setIfInBounds_toArray, List.set_cons_zero, List.set_cons_succ]
  refine He.wpE_take (i := 6) (v := ?_) rfl (by kernel_rfl) (by kernel_rfl) (by kernel_rfl) (by kernel_rfl) (by kernel_rfl) (fun _ _ _ h => h) (by rfl) ?_ (by assumption) ?_
  rotate_left
  · (intro w' hSw; (try dsimp only at hSw); go_simp; first | done | with_reducible rfl)
  try simp only [List.getElem_toArray, List.getElem_cons_succ, List.getElem_cons_zero, Act.put, List.setIfInBounds_toArray, List.set_cons_zero, List.set_cons_succ]
  refine He.wpE_take (i := 7) (v := ?_) rfl (by kernel_rfl) (by kernel_rfl) (by kernel_rfl) (by kernel_rfl) (by kernel_rfl) (fun _ _ _ h => h) (by rfl) ?_ (by assumption) ?_
  rotate_left
  · (intro w' hSw; (try dsimp only at hSw); go_simp; first | done | with_reducible rfl)
  try simp only [List.getElem_toArray, List.getElem_cons_succ, List.getElem_cons_zero, Act.put, List.setIfInBounds_toArray, List.set_cons_zero, List.set_cons_succ]
  refine He.wpE_take (i := 8) (v := ?_) rfl (by kernel_rfl) (by kernel_rfl) (by kernel_rfl) (by kernel_rfl) (by kernel_rfl) (fun _ _ _ h => h) (by rfl) ?_ (by assumption) ?_
  rotate_left
  · (intro w' hSw; (try dsimp only at hSw); go_simp; first | done | with_reducible rfl)
  try simp only [List.getElem_toArray, List.getElem_cons_succ, List.getElem_cons_zero, Act.put, List.setIfInBounds_toArray, List.set_cons_zero, List.set_cons_succ]
  refine He.wpE_take (i := 9) (v := ?_) rfl (by kernel_rfl) (by kernel_rfl) (by kernel_rfl) (by kernel_rfl) (by kernel_rfl) (fun _ _ _ h => h) (by rfl) ?_ (by assumption) ?_
  rotate_left
  · (intro w' hSw; (try dsimp only at hSw); go_simp; first | done | with_reducible rfl)
  try simp only [List.getElem_toArray, List.getElem_cons_succ, List.getElem_cons_zero, Act.put, List.setIfInBounds_toArray, List.set_cons_zero, List.set_cons_succ]
  refine He.wpE_take (i := 10) (v := ?_) rfl (by kernel_rfl) (by kernel_rfl) (by kernel_rfl) (by kernel_rfl) (by kernel_rfl) (fun _ _ _ h => h) (by rfl) ?_ (by assumption) ?_
  rotate_left
  · (intro w' hSw; (try dsimp only at hSw); go_simp; first | done | with_reducible rfl)
  try simp only [List.getElem_toArray, List.getElem_cons_succ, List.getElem_cons_zero, Act.put, List.setIfInBounds_toArray, List.set_cons_zero, List.set_cons_succ]
  refine He.wpE_take (i := 11) (v := ?_) rfl (by kernel_rfl) (by kernel_rfl) (by kernel_rfl) (by kernel_rfl) (by kernel_rfl) (fun _ _ _ h => h) (by rfl) ?_ (by assumption) ?_
  rotate_left
  · (intro w' hSw; (try dsimp only at hSw); go_simp; first | done | with_reducible rfl)
  try simp only [List.getElem_toArray, List.getElem_cons_succ, List.getElem_cons_zero, Act.put, List.setIfInBounds_toArray, List.set_cons_zero, List.set_cons_succ]
  refine He.wpE_take (i := 12) (v := ?_) rfl (by kernel_rfl) (by kernel_rfl) (by kernel_rfl) (by kernel_rfl) (by kernel_rfl) (fun _ _ _ h => h) (by rfl) ?_ (by assumption) ?_
  rotate_left
  · (intro w' hSw; (try dsimp only at hSw); go_simp; first | done | with_reducible rfl)
  try simp only [List.getElem_toArray, List.getElem_cons_succ, List.getElem_cons_zero, Act.put, List.setIfInBounds_toArray, List.set_cons_zero, List.set_cons_succ]
  refine He.wpE_done (by kernel_rfl) ?_
  try simp only [Act.put, List.setIfInBounds_toArray, List.set_cons_zero, List.set_cons_succ]
  go_wp2_with fail
  go_ret
  exact ⟨rfl, HMC.out.below0⟩
end Go.Proofs.Ytcbafomhifdgpaa.Ke
