/- The contract of the reference tape's flags. -/
import Derived.Test.YtfabmgdfapioiaaRef5
namespace Go.Proofs.Ytfabmgdfapioiaa.Bits
open Go.RowKit Mem
set_option linter.unusedSimpArgs false
set_option linter.unusedVariables false
set_option maxRecDepth 100000
attribute [local go_sem ↓] Go.wp_at_zero Go.wp_at_succ
set_option maxHeartbeats 2000000 in
theorem rFlag_calls (s : ByteArray) (e0 : Int) (w : World) (hs : s.size ≤ 140737488355328) :
    Calls Try.prog 25 #[tapeV s e0] w fun e w' => e = .returned (.tuple #[tapeV (flagR s e0).2.1 (flagR s e0).2.2, .bool (flagR s e0).1]) ∧ Mod w w' [] := by
  have HB0 := Lib.hid ((Blk.new w #[.string s, .int .i64 e0] 26).alloc (.cells #[.string ⟨#[]⟩, .int .i64 0] 26))
  have hb1 := Blk.new (w.alloc (.cells #[.string s, .int .i64 e0] 26)) #[.string ⟨#[]⟩, .int .i64 0] 26
  rw [World.size_alloc] at hb1
  have HB1 := Lib.hid hb1
  have HM0 := Lib.hid (((Mod.refl w []).alloc (.cells #[.string s, .int .i64 e0] 26)).alloc (.cells #[.string ⟨#[]⟩, .int .i64 0] 26))
  clear hb1
  by_cases h0 : e0 = 0
  case neg =>
    have hne : (e0 != 0) = true := by rw [bne_iff_ne]; exact h0
    have hR : flagR s e0 = (false, s, e0) := by unfold flagR; rw [if_pos h0]
    rw [hR]
    clear hR h0
    go_enter Try.func25, Try.ntmps25
    go_wp2_with fail
    refine bodyPost_ret (v := .tuple #[tapeV s e0, .bool false]) (by simp [results, Try.results25, go_sem]) rfl ⟨rfl, ?_⟩
    first | exact HM0.out | exact ((Mod.refl _ _).alloc _).alloc _ | exact ((HM0.out.setCell (.inr (Nat.le_succ _)) _).setCell (.inr (Nat.le_succ _)) _)
  subst h0
  by_cases h1 : s.size = 0
  · have he := isEmpty_zero s h1
    have e1 : flagR s 0 = (false, s, 5) := by unfold flagR; rw [if_neg (by simp), if_pos h1]
    rw [e1]
    clear e1 h1
    go_enter Try.func25, Try.ntmps25
    go_wp2_with fail
    refine bodyPost_ret (v := .tuple #[tapeV s 5, .bool false]) (by simp [results, Try.results25, go_sem]) rfl ⟨rfl, ?_⟩
    first | exact HM0.out | exact ((Mod.refl _ _).alloc _).alloc _ | exact ((HM0.out.setCell (.inr (Nat.le_succ _)) _).setCell (.inr (Nat.le_succ _)) _)
  have hpos : 0 < s.size := by omega
  have hpos' : 0 < (s.size : Int) := by omega
  have he := isEmpty_size s hpos
  have hby := Bt.byt_lt s 0
  have hg0 : s[0].toNat = Bt.byt s 0 := Bt.byt_get s 0 hpos
  by_cases h2 : 1 < Bt.byt s 0
  · have e1 : flagR s 0 = (false, s, 3) := by unfold flagR; rw [if_neg (by simp), if_neg h1, if_pos h2]
    rw [e1]
    clear e1 h1
    generalize Bt.byt s 0 = c at *
    have h2' : 1 < (c : Int) := by omega
    go_enter Try.func25, Try.ntmps25
    go_wp2_with fail
    refine bodyPost_ret (v := .tuple #[tapeV s 3, .bool false]) (by simp [results, Try.results25, go_sem]) rfl ⟨rfl, ?_⟩
    first | exact HM0.out | exact ((Mod.refl _ _).alloc _).alloc _ | exact ((HM0.out.setCell (.inr (Nat.le_succ _)) _).setCell (.inr (Nat.le_succ _)) _)
  · have e1 : flagR s 0 = (decide (Bt.byt s 0 = 1), s.extract 1 s.size, 0) := by unfold flagR; rw [if_neg (by simp), if_neg h1, if_neg h2]
    rw [e1]
    have h2' : (Bt.byt s 0 : Int) ≤ 1 := by omega
    have h3 : ((Bt.byt s 0 : Int) == 1) = decide (Bt.byt s 0 = 1) := by rw [Bool.eq_iff_iff, beq_iff_eq, decide_eq_true_iff]; omega
    clear e1 h1 h2
    generalize Bt.byt s 0 = c at *
    generalize decide (c = 1) = d at *
    go_enter Try.func25, Try.ntmps25
    go_wp2_with fail
    generalize (w.alloc _).alloc _ = W at HB0 HB1 HM0 ⊢
    obtain ⟨b0, b1, b2, b3⟩ := Blk2 HB0.out
    obtain ⟨c0, c1, c2, c3⟩ := Blk2 HB1.out
    have h1' : (1 : Int) ≤ s.size := by omega
    refine He.wp_region_e 9 (fun w' => w'.cell? ⟨w.heap.size, 0, none⟩ = some (.string s)) (by kernel_rfl) b0 (fun S0 => ?_)
    refine He.wpE_take (i := 0) (v := ?_) rfl (by kernel_rfl) (by kernel_rfl) (by kernel_rfl) (by kernel_rfl) (by kernel_rfl) (fun _ _ _ h => h) (by rfl) ?_ (by assumption) ?_
    rotate_left
    · (intro w' hSw; (try dsimp only at hSw); go_simp; first | done | with_reducible rfl)
    try simp only [List.getElem_toArray, List.getElem_cons_succ, List.getElem_cons_zero, Act.put, List.setIfInBounds_toArray, List.set_cons_zero, List.set_cons_succ]
    refine He.wpE_take (i := 1) (v := ?_) rfl (by kernel_rfl) (by kernel_rfl) (by kernel_rfl) (by kernel_rfl) (by kernel_rfl) (fun _ _ _ h => h) (by rfl) ?_ (by assumption) ?_
    rotate_left
    · (intro w' hSw; (try dsimp only at hSw); go_simp; first | done | with_reducible rfl)
    try simp only [List.getElem_toArray, List.getElem_cons_succ, List.getElem_cons_zero, Act.put, List.setIfInBounds_toArray, List.set_cons_zero, List.set_cons_succ]
    refine He.wpE_take (i := 2) (v := ?_) rfl (by kernel_rfl) (by kernel_rfl) (by kernel_rfl) (by kernel_rfl) (by kernel_rfl) (fun _ _ _ h => h) (by rfl) ?_ (by assumption) ?_
    rotate_left
    · (intro w' hSw; (try dsimp only at hSw); go_simp; first | done | with_reducible rfl)
    try simp only [List.getElem_toArray, List.getElem_cons_succ, List.getElem_cons_zero, Act.put, List.setIfInBounds_toArray, List.set_cons_zero, List.set_cons_succ]
    refine He.wpE_take (i := 3) (v := ?_) rfl (by kernel_rfl) (by kernel_rfl) (by kernel_rfl) (by kernel_rfl) (by kernel_rfl) (fun _ _ _ h => h) (by rfl) ?_ (by assumption) ?_
    rotate_left
    · (intro w' hSw; (try dsimp only at hSw); go_simp; first | done | with_reducible rfl)
    try simp only [List.getElem_toArray, List.getElem_cons_succ, List.getElem_cons_zero, Act.put, List.setIfInBounds_toArray, List.set_cons_zero, List.set_cons_succ]
    refine He.wpE_take (i := 4) (v := ?_) rfl (by kernel_rfl) (by kernel_rfl) (by kernel_rfl) (by kernel_rfl) (by kernel_rfl) (fun _ _ _ h => h) (by rfl) ?_ (by assumption) ?_
    rotate_left
    · (intro w' hSw; (try dsimp only at hSw); go_simp; first | done | with_reducible rfl)
    try simp only [List.getElem_toArray, List.getElem_cons_succ, List.getElem_cons_zero, Act.put, List.setIfInBounds_toArray, List.set_cons_zero, List.set_cons_succ]
    refine He.wpE_take (i := 5) (v := ?_) rfl (by kernel_rfl) (by kernel_rfl) (by kernel_rfl) (by kernel_rfl) (by kernel_rfl) (fun _ _ _ h => h) (by rfl) ?_ (by assumption) ?_
    rotate_left
    · (intro w' hSw; (try dsimp only at hSw); go_simp; first | done | with_reducible rfl)
    try simp only [List.getElem_toArray, List.getElem_cons_succ, List.getElem_cons_zero, Act.put, List.setIfInBounds_toArray, List.set_cons_zero, List.set_cons_succ]
    refine He.wpE_take (i := 6) (v := ?_) rfl (by kernel_rfl) (by kernel_rfl) (by kernel_rfl) (by kernel_rfl) (by kernel_rfl) (fun _ _ _ h => h) (by rfl) ?_ (by assumption) ?_
    rotate_left
    · (intro w' hSw; (try dsimp only at hSw); go_simp; first | done | with_reducible rfl)
    try simp only [List.getElem_toArray, List.getElem_cons_succ, List.getElem_cons_zero, Act.put, List.setIfInBounds_toArray, List.set_cons_zero, List.set_cons_succ]
    refine He.wpE_take (i := 7) (v := ?_) rfl (by kernel_rfl) (by kernel_rfl) (by kernel_rfl) (by kernel_rfl) (by kernel_rfl) (fun _ _ _ h => h) (by rfl) ?_ (by assumption) ?_
    rotate_left
    · (intro w' hSw; (try dsimp only at hSw); go_simp; first | done | with_reducible rfl)
    try simp only [List.getElem_toArray, List.getElem_cons_succ, List.getElem_cons_zero, Act.put, List.setIfInBounds_toArray, List.set_cons_zero, List.set_cons_succ]
    refine He.wpE_one (i := 8) (by kernel_rfl) rfl (by rfl) (fun K hK => ?_)
    go_simp
    have S1 : (World.setCell (World.setCell W.drew ⟨w.heap.size + 1, 0, none⟩ (.string (s.extract 1 s.size))) ⟨w.heap.size + 1, 1, none⟩ (.int .i64 0)).cell? ⟨w.heap.size, 0, none⟩ = some (.string s) := by go_simp
    refine hK.out _ _ (fun _ => S1) ?_
    clear hK K
    try simp only [Act.put, List.setIfInBounds_toArray, List.set_cons_zero, List.set_cons_succ]
    refine He.wpE_take (i := 9) (v := ?_) rfl (by kernel_rfl) (by kernel_rfl) (by kernel_rfl) (by kernel_rfl) (by kernel_rfl) (fun _ _ _ h => h) (by rfl) ?_ (by assumption) ?_
    rotate_left
    · (intro w' hSw; (try dsimp only at hSw); go_simp; first | done | with_reducible rfl)
    try simp only [List.getElem_toArray, List.getElem_cons_succ, List.getElem_cons_zero, Act.put, List.setIfInBounds_toArray, List.set_cons_zero, List.set_cons_succ]
    refine He.wpE_done (by kernel_rfl) ?_
    go_wp2_with fail
    refine bodyPost_ret (v := .tuple #[tapeV (s.extract 1 s.size) 0, .bool d]) (by simp [results, Try.results25, go_sem, c0, c1]) rfl ⟨rfl, ?_⟩
    exact ((HM0.out.drew).setCell (.inr (Nat.le_succ _)) _).setCell (.inr (Nat.le_succ _)) _
end Go.Proofs.Ytfabmgdfapioiaa.Bits
