/- The contract of the reference tape's texts. -/
import Derived.Test.YtfabmgdfapioiaaRef3
namespace Go.Proofs.Ytfabmgdfapioiaa.Bits
open Go.RowKit Mem
set_option linter.unusedSimpArgs false
set_option linter.unusedVariables false
set_option maxRecDepth 100000
attribute [local go_sem ↓] Go.wp_at_zero Go.wp_at_succ
set_option maxHeartbeats 2000000 in
theorem rText_calls (s : ByteArray) (e0 most : Int) (m1 : -9223372036854775808 ≤ most) (m2 : most ≤ 9223372036854775807) (w : World) (hs : s.size ≤ 140737488355328) :
    Calls Try.prog 24 #[tapeV s e0, .int .i64 most] w fun e w' => e = .returned (.tuple #[tapeV (textR s e0 most).2.1 (textR s e0 most).2.2, .string (textR s e0 most).1]) ∧ Mod w w' [] := by
  have HB0 := Lib.hid ((Blk.new w #[.string s, .int .i64 e0] 26).alloc (.cells #[.string ⟨#[]⟩, .int .i64 0] 26))
  have hb1 := Blk.new (w.alloc (.cells #[.string s, .int .i64 e0] 26)) #[.string ⟨#[]⟩, .int .i64 0] 26
  rw [World.size_alloc] at hb1
  have HB1 := Lib.hid hb1
  have HM0 := Lib.hid (((Mod.refl w []).alloc (.cells #[.string s, .int .i64 e0] 26)).alloc (.cells #[.string ⟨#[]⟩, .int .i64 0] 26))
  clear hb1
  by_cases h0 : e0 = 0
  case neg =>
    have hne : (e0 != 0) = true := by rw [bne_iff_ne]; exact h0
    have hR : textR s e0 most = (⟨#[]⟩, s, e0) := by unfold textR; rw [if_pos h0]
    rw [hR]
    clear hR h0
    go_enter Try.func24, Try.ntmps24
    go_wp2_with fail
    refine bodyPost_ret (v := .tuple #[tapeV s e0, .string ⟨#[]⟩]) (by simp [results, Try.results24, go_sem]) rfl ⟨rfl, ?_⟩
    first | exact HM0.out | exact ((Mod.refl _ _).alloc _).alloc _
  subst h0
  have hD := Bt.numD_facts s
  have HN := Lib.hid (fun w => ahead_calls s w hs)
  rw [textR0]
  generalize Bt.numD s = D at *
  obtain ⟨n, k, e⟩ := D
  simp only at hD HN ⊢
  obtain ⟨hd1, hd2, hd3, hd4, hd5, hd6⟩ := hD
  have hk : (k : Int) ≤ s.size := by omega
  have hs' : (s.size : Int) ≤ 140737488355328 := by omega
  by_cases he : e = 0
  case neg =>
    rw [if_pos he]
    have hne : (e != 0) = true := by rw [bne_iff_ne]; exact he
    clear he hd4 hd5 hd6
    go_enter Try.func24, Try.ntmps24
    go_wp2_with fail
    refine (HN.out _).mono ?_
    rintro e' w1 ⟨rfl, hm1⟩
    obtain ⟨b0, b1, b2, b3⟩ := Blk2 (HB0.out.mod hm1 (by simp))
    obtain ⟨c0, c1, c2, c3⟩ := Blk2 (HB1.out.mod hm1 (by simp))
    have HM1 := Lib.hid (HM0.out.trans0 hm1)
    clear hm1
    go_wp2_with fail
    refine bodyPost_ret (v := .tuple #[tapeV s e, .string ⟨#[]⟩]) (by simp [results, Try.results24, go_sem, c0, c1]) rfl ⟨rfl, ?_⟩
    exact (HM1.out.setCell (.inr (Nat.le_succ _)) _).setCell (.inr (Nat.le_succ _)) _
  subst he
  rw [if_neg (by simp)]
  clear hd4 hd5 hd6
  by_cases hl : max most 0 < (n : Int)
  · rw [if_pos hl]
    have hn0 : 0 < (n : Int) := by omega
    rcases (by omega : most < 0 ∨ (0 ≤ most ∧ most < n)) with g | ⟨g, g'⟩
    all_goals
      clear hl
      go_enter Try.func24, Try.ntmps24
      go_wp2_with fail
      refine (HN.out _).mono ?_
      rintro e' w1 ⟨rfl, hm1⟩
      obtain ⟨b0, b1, b2, b3⟩ := Blk2 (HB0.out.mod hm1 (by simp))
      obtain ⟨c0, c1, c2, c3⟩ := Blk2 (HB1.out.mod hm1 (by simp))
      have HM1 := Lib.hid (HM0.out.trans0 hm1)
      clear hm1
      go_wp2_with fail
      refine bodyPost_ret (v := .tuple #[tapeV s 2, .string ⟨#[]⟩]) (by simp [results, Try.results24, go_sem, c0, c1]) rfl ⟨rfl, ?_⟩
      exact (HM1.out.setCell (.inr (Nat.le_succ _)) _).setCell (.inr (Nat.le_succ _)) _
  rw [if_neg hl]
  by_cases hz : s.size - k < n
  · rw [if_pos hz]
    have hz' : (s.size : Int) - k < n := by omega
    obtain ⟨g, g'⟩ : 0 ≤ most ∧ (n : Int) ≤ most := by omega
    all_goals
      clear hl hz
      go_enter Try.func24, Try.ntmps24
      go_wp2_with fail
      refine (HN.out _).mono ?_
      rintro e' w1 ⟨rfl, hm1⟩
      obtain ⟨b0, b1, b2, b3⟩ := Blk2 (HB0.out.mod hm1 (by simp))
      obtain ⟨c0, c1, c2, c3⟩ := Blk2 (HB1.out.mod hm1 (by simp))
      have HM1 := Lib.hid (HM0.out.trans0 hm1)
      clear hm1
      go_wp2_with fail
      refine bodyPost_ret (v := .tuple #[tapeV s 5, .string ⟨#[]⟩]) (by simp [results, Try.results24, go_sem, c0, c1]) rfl ⟨rfl, ?_⟩
      exact (HM1.out.setCell (.inr (Nat.le_succ _)) _).setCell (.inr (Nat.le_succ _)) _
  rw [if_neg hz]
  have hz' : (n : Int) ≤ (s.size : Int) - k := by omega
  have hkn : (k : Int) + n ≤ s.size := by omega
  have hk0 : (0 : Int) ≤ k := by omega
  have hn0 : (0 : Int) ≤ n := by omega
  have hwn : IntKind.i64.wrap (n : Int) = n := IntWalk.i64_in _ (by omega)
  have hwk : IntKind.i64.wrap ((k : Int) + n) = (k : Int) + n := IntWalk.i64_in _ (by omega)
  have htn : ((k : Int) + n).toNat = k + n := by omega
  have hkn0 : (0 : Int) ≤ (k : Int) + n := by omega
  have hkk : (k : Int) ≤ (k : Int) + n := by omega
  rcases (by omega : (most < 0 ∧ (n : Int) ≤ 0) ∨ (0 ≤ most ∧ (n : Int) ≤ most)) with ⟨g, g'⟩ | ⟨g, g'⟩
  all_goals
    clear hl hz
    go_enter Try.func24, Try.ntmps24
    go_wp2_with fail
    refine (HN.out _).mono ?_
    rintro e' w1 ⟨rfl, hm1⟩
    obtain ⟨b0, b1, b2, b3⟩ := Blk2 (HB0.out.mod hm1 (by simp))
    obtain ⟨c0, c1, c2, c3⟩ := Blk2 (HB1.out.mod hm1 (by simp))
    have HM1 := Lib.hid (HM0.out.trans0 hm1)
    clear hm1
    go_wp2_with fail
    refine He.wp_region_e 17 (fun w' => w'.cell? ⟨w.heap.size, 0, none⟩ = some (.string s)) (by kernel_rfl) b0 (fun S0 => ?_)
    refine He.wpE_take (i := 0) (v := ?_) rfl (by kernel_rfl) (by kernel_rfl) (by kernel_rfl) (by kernel_rfl) (by kernel_rfl) (fun _ _ _ h => h) (by rfl) ?_ (by assumption) ?_
    rotate_left
    · (intro w' hSw; (try dsimp only at hSw); go_simp; first | done | with_reducible rfl)
    try simp only [List.getElem_toArray, List.getElem_cons_succ, List.getElem_cons_zero, Act.put, List.setIfInBounds_toArray, List.set_cons_zero, List.set_cons_succ]
    refine He.wpE_take (i := 1) (v := ?_) rfl (by kernel_rfl) (by kernel_rfl) (by kernel_rfl) (by kernel_rfl) (by kernel_rfl) (fun _ _ _ h => h) (by rfl) ?_ (by assumption) ?_
    rotate_left
    · (intro w' hSw; (try dsimp only at hSw); go_simp; first | done | with_reducible rfl)
    try simp only [List.getElem_toArray, List.getElem_cons_succ, List.getElem_cons_zero, Act.put, List.setIfInBounds_toArray, List.set_cons_zero, List.set_cons_succ]
    refine He.wpE_take (i := 2) (v := ?_) rfl (by kernel_rfl) (by kernel_rfl) (by kernel_rfl) (by kernel_rfl) (by kernel_rfl) (fun _ _ _ h => h) (by rfl) ?_ (by assumption) ?_
    rotate_left
    · (intro w' hSw; (try dsimp only at hSw); go_simp; first | done | with_reducible rfl)
    try simp only [List.getElem_toArray, List.getElem_cons_succ, List.getElem_cons_zero, Act.put, List.setIfInBounds_toArray, List.set_cons_zero, List.set_cons_succ]
    refine He.wpE_take (i := 3) (v := ?_) rfl (by kernel_rfl) (by kernel_rfl) (by kernel_rfl) (by kernel_rfl) (by kernel_rfl) (fun _ _ _ h => h) (by rfl) ?_ (by assumption) ?_
    rotate_left
    · (intro w' hSw; (try dsimp only at hSw); go_simp; first | done | with_reducible rfl)
    try simp only [List.getElem_toArray, List.getElem_cons_succ, List.getElem_cons_zero, Act.put, List.setIfInBounds_toArray, List.set_cons_zero, List.set_cons_succ]
    refine He.wpE_take (i := 4) (v := ?_) rfl (by kernel_rfl) (by kernel_rfl) (by kernel_rfl) (by kernel_rfl) (by kernel_rfl) (fun _ _ _ h => h) (by rfl) ?_ (by assumption) ?_
    rotate_left
    · (intro w' hSw; (try dsimp only at hSw); go_simp; first | done | with_reducible rfl)
    try simp only [List.getElem_toArray, List.getElem_cons_succ, List.getElem_cons_zero, Act.put, List.setIfInBounds_toArray, List.set_cons_zero, List.set_cons_succ]
    refine He.wpE_take (i := 5) (v := ?_) rfl (by kernel_rfl) (by kernel_rfl) (by kernel_rfl) (by kernel_rfl) (by kernel_rfl) (fun _ _ _ h => h) (by rfl) ?_ (by assumption) ?_
    rotate_left
    · (intro w' hSw; (try dsimp only at hSw); go_simp; first | done | with_reducible rfl)
    try simp only [List.getElem_toArray, List.getElem_cons_succ, List.getElem_cons_zero, Act.put, List.setIfInBounds_toArray, List.set_cons_zero, List.set_cons_succ]
    refine He.wpE_take (i := 6) (v := ?_) rfl (by kernel_rfl) (by kernel_rfl) (by kernel_rfl) (by kernel_rfl) (by kernel_rfl) (fun _ _ _ h => h) (by rfl) ?_ (by assumption) ?_
    rotate_left
    · (intro w' hSw; (try dsimp only at hSw); go_simp; first | done | with_reducible rfl)
    try simp only [List.getElem_toArray, List.getElem_cons_succ, List.getElem_cons_zero, Act.put, List.setIfInBounds_toArray, List.set_cons_zero, List.set_cons_succ]
    refine He.wpE_take (i := 7) (v := ?_) rfl (by kernel_rfl) (by kernel_rfl) (by kernel_rfl) (by kernel_rfl) (by kernel_rfl) (fun _ _ _ h => h) (by rfl) ?_ (by assumption) ?_
    rotate_left
    · (intro w' hSw; (try dsimp only at hSw); go_simp; first | done | with_reducible rfl)
    try simp only [List.getElem_toArray, List.getElem_cons_succ, List.getElem_cons_zero, Act.put, List.setIfInBounds_toArray, List.set_cons_zero, List.set_cons_succ]
    refine He.wpE_take (i := 8) (v := ?_) rfl (by kernel_rfl) (by kernel_rfl) (by kernel_rfl) (by kernel_rfl) (by kernel_rfl) (fun _ _ _ h => h) (by rfl) ?_ (by assumption) ?_
    rotate_left
    · (intro w' hSw; (try dsimp only at hSw); go_simp; first | done | with_reducible rfl)
    try simp only [List.getElem_toArray, List.getElem_cons_succ, List.getElem_cons_zero, Act.put, List.setIfInBounds_toArray, List.set_cons_zero, List.set_cons_succ]
    refine He.wpE_take (i := 9) (v := ?_) rfl (by kernel_rfl) (by kernel_rfl) (by kernel_rfl) (by kernel_rfl) (by kernel_rfl) (fun _ _ _ h => h) (by rfl) ?_ (by assumption) ?_
    rotate_left
    · (intro w' hSw; (try dsimp only at hSw); go_simp; first | done | with_reducible rfl)
    try simp only [List.getElem_toArray, List.getElem_cons_succ, List.getElem_cons_zero, Act.put, List.setIfInBounds_toArray, List.set_cons_zero, List.set_cons_succ]
    refine He.wpE_take (i := 10) (v := ?_) rfl (by kernel_rfl) (by kernel_rfl) (by kernel_rfl) (by kernel_rfl) (by kernel_rfl) (fun _ _ _ h => h) (by rfl) ?_ (by assumption) ?_
    rotate_left
    · (intro w' hSw; (try dsimp only at hSw); go_simp; first | done | with_reducible rfl)
    try simp only [List.getElem_toArray, List.getElem_cons_succ, List.getElem_cons_zero, Act.put, List.setIfInBounds_toArray, List.set_cons_zero, List.set_cons_succ]
    refine He.wpE_take (i := 11) (v := ?_) rfl (by kernel_rfl) (by kernel_rfl) (by kernel_rfl) (by kernel_rfl) (by kernel_rfl) (fun _ _ _ h => h) (by rfl) ?_ (by assumption) ?_
    rotate_left
    · (intro w' hSw; (try dsimp only at hSw); go_simp; first | done | with_reducible rfl)
    try simp only [List.getElem_toArray, List.getElem_cons_succ, List.getElem_cons_zero, Act.put, List.setIfInBounds_toArray, List.set_cons_zero, List.set_cons_succ]
    refine He.wpE_take (i := 12) (v := ?_) rfl (by kernel_rfl) (by kernel_rfl) (by kernel_rfl) (by kernel_rfl) (by kernel_rfl) (fun _ _ _ h => h) (by rfl) ?_ (by assumption) ?_
    rotate_left
    · (intro w' hSw; (try dsimp only at hSw); go_simp; first | done | with_reducible rfl)
    try simp only [List.getElem_toArray, List.getElem_cons_succ, List.getElem_cons_zero, Act.put, List.setIfInBounds_toArray, List.set_cons_zero, List.set_cons_succ]
    refine He.wpE_take (i := 13) (v := ?_) rfl (by kernel_rfl) (by kernel_rfl) (by kernel_rfl) (by kernel_rfl) (by kernel_rfl) (fun _ _ _ h => h) (by rfl) ?_ (by assumption) ?_
    rotate_left
    · (intro w' hSw; (try dsimp only at hSw); go_simp; first | done | with_reducible rfl)
    try simp only [List.getElem_toArray, List.getElem_cons_succ, List.getElem_cons_zero, Act.put, List.setIfInBounds_toArray, List.set_cons_zero, List.set_cons_succ]
    refine He.wpE_take (i := 14) (v := ?_) rfl (by kernel_rfl) (by kernel_rfl) (by kernel_rfl) (by kernel_rfl) (by kernel_rfl) (fun _ _ _ h => h) (by rfl) ?_ (by assumption) ?_
    rotate_left
    · (intro w' hSw; (try dsimp only at hSw); go_simp; first | done | with_reducible rfl)
    try simp only [List.getElem_toArray, List.getElem_cons_succ, List.getElem_cons_zero, Act.put, List.setIfInBounds_toArray, List.set_cons_zero, List.set_cons_succ]
    refine He.wpE_take (i := 15) (v := ?_) rfl (by kernel_rfl) (by kernel_rfl) (by kernel_rfl) (by kernel_rfl) (by kernel_rfl) (fun _ _ _ h => h) (by rfl) ?_ (by assumption) ?_
    rotate_left
    · (intro w' hSw; (try dsimp only at hSw); go_simp; first | done | with_reducible rfl)
    try simp only [List.getElem_toArray, List.getElem_cons_succ, List.getElem_cons_zero, Act.put, List.setIfInBounds_toArray, List.set_cons_zero, List.set_cons_succ]
    refine He.wpE_one (i := 16) (by kernel_rfl) rfl (by rfl) (fun K hK => ?_)
    go_simp
    have S1 : (World.setCell (World.setCell w1.drew ⟨w.heap.size + 1, 0, none⟩ (.string (s.extract (k + n) s.size))) ⟨w.heap.size + 1, 1, none⟩ (.int .i64 0)).cell? ⟨w.heap.size, 0, none⟩ = some (.string s) := by go_simp
    refine hK.out _ _ (fun _ => S1) ?_
    clear hK K
    try simp only [Act.put, List.setIfInBounds_toArray, List.set_cons_zero, List.set_cons_succ]
    refine He.wpE_take (i := 17) (v := ?_) rfl (by kernel_rfl) (by kernel_rfl) (by kernel_rfl) (by kernel_rfl) (by kernel_rfl) (fun _ _ _ h => h) (by rfl) ?_ (by assumption) ?_
    rotate_left
    · (intro w' hSw; (try dsimp only at hSw); go_simp; first | done | with_reducible rfl)
    try simp only [List.getElem_toArray, List.getElem_cons_succ, List.getElem_cons_zero, Act.put, List.setIfInBounds_toArray, List.set_cons_zero, List.set_cons_succ]
    refine He.wpE_done (by kernel_rfl) ?_
    go_wp2_with fail
    refine bodyPost_ret (v := .tuple #[tapeV (s.extract (k + n) s.size) 0, .string (s.extract k (k + n))]) (by simp [results, Try.results24, go_sem, c0, c1]) rfl ⟨rfl, ?_⟩
    exact ((HM1.out.drew).setCell (.inr (Nat.le_succ _)) _).setCell (.inr (Nat.le_succ _)) _
end Go.Proofs.Ytfabmgdfapioiaa.Bits
