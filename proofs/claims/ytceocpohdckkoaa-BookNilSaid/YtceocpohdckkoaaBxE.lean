/- The law BookNil. -/
import Derived.Test.YtceocpohdckkoaaBxD
namespace Go.Proofs.Ytceocpohdckkoaa.Bx
open Go.RowKit Mem Bits
set_option linter.unusedSimpArgs false
set_option linter.unusedVariables false
set_option maxRecDepth 100000

structure TxN (w0 : World) (s : ByteArray) (w : World) : Prop where
  bl : Below w0.heap.size w0 w
  at_ : AtS w w0.heap.size w0.heap.size s
  fb : Blk w (w0.heap.size + 1) #[putF w0.heap.size] 90
theorem TxN.mod {w0 : World} {s : ByteArray} {w w' : World} (h : TxN w0 s w) (m : Mod w w' []) : TxN w0 s w' :=
  ⟨h.bl.trans (below_mod h.bl.size m), Sc.at_mod h.at_ m, h.fb.mod m (by simp)⟩
theorem TxN.put {w0 : World} {s : ByteArray} {w : World} (h : TxN w0 s w) (n : Int) (hn : 0 ≤ n ∧ n ≤ 9223372036854775807) (hs : s.size ≤ 1000000) :
    Calls Try.prog 51 #[.int .i64 n, ptr w0.heap.size] w fun e w' => e = .returned (.tuple #[]) ∧ TxN w0 (s ++ numI n) w' :=
  (put_text w0.heap.size w0.heap.size s n w hn h.at_ h.bl.size hs).mono fun e w' ⟨h1, h2, h3⟩ => ⟨h1, h.bl.trans h3.below, h2, wr_kept h3 h.at_ _ _ _ h.fb ⟨by decide, by decide⟩⟩
theorem two_zero : numI 0 ++ numI 0 = ⟨#[0, 0]⟩ := by decide

set_option maxHeartbeats 4000000 in
theorem text_nil (w : World) : Calls Try.prog 27 #[.pointer none] w fun e w' => e = .returned (.string ⟨#[0, 0]⟩) ∧ Mod w w' [] := by
  have HA0 : Hid (AtS (w.alloc (.cells #[.pointer none, .slice none 0 0] Sc.tB)) w.heap.size w.heap.size ⟨#[]⟩) := Lib.hid (.inl ⟨Nat.le_refl _, .slice none 0 0, Blk.new w _ _, World.ownsRow_nil _ _ _ _, by simp [Value.ownBlock]⟩)
  have HM0 := Lib.hid ((Mod.refl w []).alloc (.cells #[.pointer none, .slice none 0 0] Sc.tB))
  go_enter Try.func27, Try.ntmps27
  go_wp2_with fail
  have HC : Hid (TxN w ⟨#[]⟩ ((w.alloc (.cells #[.pointer none, .slice none 0 0] Sc.tB)).alloc (.cells #[putF w.heap.size] 90))) := Lib.hid
    ⟨HM0.out.below0.trans (below_mod HM0.out.size ((Mod.refl _ _).alloc _)), Sc.at_mod HA0.out ((Mod.refl _ _).alloc _), by
      have h := Blk.new (w.alloc (.cells #[.pointer none, .slice none 0 0] Sc.tB)) #[putF w.heap.size] 90
      rw [World.size_alloc] at h
      exact h⟩
  generalize (w.alloc _).alloc _ = W at *
  clear HA0 HM0
  have hz0 : (⟨#[]⟩ : ByteArray).size = 0 := rfl
  have hs9 := (numI_size 0).2
  have hw0 : IntKind.i64.wrap 0 = 0 := by decide
  refine Fx.wp_region_f [3] (fun m w' => TxN w (if m = 0 then ⟨#[]⟩ else numI 0) w') (by kernel_rfl) (by decide) (HC.out.mod ((Mod.refl W []).drew)) ?_
  have hSS : ∀ m w', TxN w (if m = 0 then ⟨#[]⟩ else numI 0) w' → w'.cell? ⟨w.heap.size + 1, 0, none⟩ = some (putF w.heap.size) := fun m w' h => h.fb.cell 0
  refine Fx.take (i := 0) (v := ?_) _ rfl (by kernel_rfl) (by kernel_rfl) (by rfl) hSS ?_ ?_
  rotate_left
  · (intro w' hSw; (try dsimp only at hSw); go_simp; first | done | with_reducible rfl)
  try simp only [List.getElem_toArray, List.getElem_cons_succ, List.getElem_cons_zero, Act.put, List.setIfInBounds_toArray, List.set_cons_zero, List.set_cons_succ]
  refine Fx.take (i := 1) (v := ?_) _ rfl (by kernel_rfl) (by kernel_rfl) (by rfl) hSS ?_ ?_
  rotate_left
  · (intro w' hSw; (try dsimp only at hSw); go_simp; first | done | with_reducible rfl)
  try simp only [List.getElem_toArray, List.getElem_cons_succ, List.getElem_cons_zero, Act.put, List.setIfInBounds_toArray, List.set_cons_zero, List.set_cons_succ]
  refine Fx.call' (i := 2) rfl (by kernel_rfl) (by kernel_rfl) (by rfl) ?_
  apply Exists.intro
  apply Exists.intro
  apply Exists.intro
  refine ⟨?_, ?_, ?_⟩
  · (intro w'; go_simp; first | done | (refine ⟨?_, ?_⟩ <;> with_reducible rfl) | with_reducible rfl)
  · (intro m w' h; (with_reducible refine (base_nil w').mono ?_); rintro e w'' ⟨rfl, rfl⟩; exact ⟨rfl, h⟩)
  try simp only [List.getElem_toArray, List.getElem_cons_succ, List.getElem_cons_zero, Act.put, List.setIfInBounds_toArray, List.set_cons_zero, List.set_cons_succ]
  refine Fx.eff' (i := 3) 0 rfl (by kernel_rfl) (by kernel_rfl) (by rfl) (by kernel_rfl) (by kernel_rfl) ?_
  apply Exists.intro
  apply Exists.intro
  apply Exists.intro
  refine ⟨?_, ?_, ?_⟩
  · (intro w'; go_simp; first | done | (refine ⟨?_, ?_⟩ <;> with_reducible rfl) | with_reducible rfl)
  · (intro w' h; (with_reducible refine (TxN.put (s := ⟨#[]⟩) h 0 ⟨by omega, by omega⟩ (by omega)).mono ?_); rintro e w'' ⟨rfl, hc⟩; rw [nil_app] at hc; exact ⟨rfl, by rw [if_neg (by decide)]; exact hc⟩)
  try simp only [List.getElem_toArray, List.getElem_cons_succ, List.getElem_cons_zero, Act.put, List.setIfInBounds_toArray, List.set_cons_zero, List.set_cons_succ]
  refine Fx.done 1 (by kernel_rfl) (by kernel_rfl) (fun w2 hC2 => ?_)
  have HC2 : Hid (TxN w (numI 0) w2) := Lib.hid hC2
  clear hC2 hSS HC
  go_wp2_with fail
  refine Fx.wp_region_f [6] (fun m w' => TxN w (if m = 0 then numI 0 else numI 0 ++ numI 0) w') (by kernel_rfl) (by decide) (HC2.out.mod ((Mod.refl w2 []).drew)) ?_
  have hSS : ∀ m w', TxN w (if m = 0 then numI 0 else numI 0 ++ numI 0) w' → w'.cell? ⟨w.heap.size + 1, 0, none⟩ = some (putF w.heap.size) := fun m w' h => h.fb.cell 0
  refine Fx.take (i := 0) (v := ?_) _ rfl (by kernel_rfl) (by kernel_rfl) (by rfl) hSS ?_ ?_
  rotate_left
  · (intro w' hSw; (try dsimp only at hSw); go_simp; first | done | with_reducible rfl)
  try simp only [List.getElem_toArray, List.getElem_cons_succ, List.getElem_cons_zero, Act.put, List.setIfInBounds_toArray, List.set_cons_zero, List.set_cons_succ]
  refine Fx.take (i := 1) (v := ?_) _ rfl (by kernel_rfl) (by kernel_rfl) (by rfl) hSS ?_ ?_
  rotate_left
  · (intro w' hSw; (try dsimp only at hSw); go_simp; first | done | with_reducible rfl)
  try simp only [List.getElem_toArray, List.getElem_cons_succ, List.getElem_cons_zero, Act.put, List.setIfInBounds_toArray, List.set_cons_zero, List.set_cons_succ]
  refine Fx.take (i := 3) (v := ?_) _ rfl (by kernel_rfl) (by kernel_rfl) (by rfl) hSS ?_ ?_
  rotate_left
  · (intro w' hSw; (try dsimp only at hSw); go_simp; first | done | with_reducible rfl)
  try simp only [List.getElem_toArray, List.getElem_cons_succ, List.getElem_cons_zero, Act.put, List.setIfInBounds_toArray, List.set_cons_zero, List.set_cons_succ]
  refine Fx.call' (i := 2) rfl (by kernel_rfl) (by kernel_rfl) (by rfl) ?_
  apply Exists.intro
  apply Exists.intro
  apply Exists.intro
  refine ⟨?_, ?_, ?_⟩
  · (intro w'; go_simp; first | done | (refine ⟨?_, ?_⟩ <;> with_reducible rfl) | with_reducible rfl)
  · (intro m w' h; (with_reducible refine (end_nil w').mono ?_); rintro e w'' ⟨rfl, rfl⟩; exact ⟨rfl, h⟩)
  try simp only [List.getElem_toArray, List.getElem_cons_succ, List.getElem_cons_zero, Act.put, List.setIfInBounds_toArray, List.set_cons_zero, List.set_cons_succ]
  refine Fx.call' (i := 4) rfl (by kernel_rfl) (by kernel_rfl) (by rfl) ?_
  apply Exists.intro
  apply Exists.intro
  apply Exists.intro
  refine ⟨?_, ?_, ?_⟩
  · (intro w'; go_simp; first | done | (refine ⟨?_, ?_⟩ <;> with_reducible rfl) | with_reducible rfl)
  · (intro m w' h; (with_reducible refine (base_nil w').mono ?_); rintro e w'' ⟨rfl, rfl⟩; exact ⟨rfl, h⟩)
  try simp only [List.getElem_toArray, List.getElem_cons_succ, List.getElem_cons_zero, Act.put, List.setIfInBounds_toArray, List.set_cons_zero, List.set_cons_succ]
  refine Fx.take (i := 5) (v := ?_) _ rfl (by kernel_rfl) (by kernel_rfl) (by rfl) hSS ?_ ?_
  rotate_left
  · (intro w' hSw; (try dsimp only at hSw); go_simp; first | done | with_reducible rfl)
  try simp only [List.getElem_toArray, List.getElem_cons_succ, List.getElem_cons_zero, Act.put, List.setIfInBounds_toArray, List.set_cons_zero, List.set_cons_succ]
  refine Fx.eff' (i := 6) 0 rfl (by kernel_rfl) (by kernel_rfl) (by rfl) (by kernel_rfl) (by kernel_rfl) ?_
  apply Exists.intro
  apply Exists.intro
  apply Exists.intro
  refine ⟨?_, ?_, ?_⟩
  · (intro w'; go_simp; first | done | (refine ⟨?_, ?_⟩ <;> with_reducible rfl) | with_reducible rfl)
  · (intro w' h; (with_reducible refine (TxN.put (s := numI 0) h 0 ⟨by omega, by omega⟩ (by omega)).mono ?_); rintro e w'' ⟨rfl, hc⟩; exact ⟨rfl, by rw [if_neg (by decide)]; exact hc⟩)
  try simp only [List.getElem_toArray, List.getElem_cons_succ, List.getElem_cons_zero, Act.put, List.setIfInBounds_toArray, List.set_cons_zero, List.set_cons_succ]
  refine Fx.done 1 (by kernel_rfl) (by kernel_rfl) (fun w5 hC5 => ?_)
  have HC5 : Hid (TxN w ⟨#[0, 0]⟩ w5) := Lib.hid (by rw [← two_zero]; exact hC5)
  clear hC5 hSS HC2
  have SC := Lib.hid (Sc.string_calls w.heap.size w.heap.size [0, 0] w5 HC5.out.at_ (by decide))
  go_wp2_with fail
  (with_reducible refine SC.out.mono ?_)
  rintro e w6 ⟨rfl, hb6, -⟩
  have HB6 := Lib.hid (HC5.out.bl.trans hb6)
  clear hb6 SC
  go_wp2_with fail
  go_ret
  exact ⟨rfl, Mod.of_below HB6.out⟩

abbrev mtSh : Open.Sh := .st (.cat (.sl (.int .i64) 8) .nil)
set_option maxHeartbeats 4000000 in
theorem bookNil_calls (w : World) (ca : Array Value) (ha : Open.Rd w mtSh ca.toList) (n : Int) (hn : (Lit.int .i64 n).wf = true) :
    Calls Try.prog 8 #[.agg ca, .int .i64 n] w fun e w' => e = .returned (.bool true) ∧ Below w.heap.size w w' := by
  obtain ⟨u, hca⟩ : ∃ u, ca = #[u] := by
    obtain ⟨x, y, e, h1, h2⟩ := ha
    obtain ⟨v, _, rfl, _⟩ := h1
    obtain rfl : y = [] := h2
    exact ⟨v, by apply Array.ext'; rw [e]; rfl⟩
  subst hca
  obtain ⟨ad, cu, cap, hu⟩ : ∃ a n c, u = .slice a n c := by
    obtain ⟨x, y, e, h1, h2⟩ := ha
    obtain ⟨v, rows, rfl, ⟨a, c, rfl, _⟩, _⟩ := h1
    obtain rfl : y = [] := h2
    have : u = .slice a rows.length c := by simpa using e
    exact ⟨_, _, _, this⟩
  subst hu
  have RN := Lib.hid (fun w => read_nil n n w)
  have AW := Lib.hid awake_calls
  have PN := Lib.hid (fun w => put_nil (.slice ad cu cap) w)
  have FN := Lib.hid (fun w => forget_nil n w)
  have BN := Lib.hid base_nil
  have EN := Lib.hid end_nil
  have TN := Lib.hid text_nil
  have HX := Lib.hid (Blk.new w #[.slice ad cu cap] 32)
  have HM := Lib.hid ((Mod.refl w []).alloc (.cells #[.slice ad cu cap] 32))
  clear ha hn
  go_enter Try.func8, Try.ntmps8
  go_wp2_with fail
  refine (RN.out _).mono ?_
  rintro e w1 ⟨v1, rfl, hm1, us1, ho1, hr1⟩
  obtain rfl : us1 = [] := List.eq_nil_of_length_eq_zero (by simpa using all2_len hr1)
  obtain ⟨a1, c1, rfl⟩ := Rw.own_slice ho1
  have HM1 := Lib.hid (HM.out.trans0 hm1)
  have HX1 := Lib.hid (HX.out.mod hm1 (by simp))
  clear hm1 ho1 hr1 RN HX HM
  go_wp2_with fail
  (with_reducible refine (AW.out _).mono ?_)
  rintro e w2 ⟨rfl, hm2⟩
  have HM2 := Lib.hid (HM1.out.trans0 hm2)
  have x2 := (HX1.out.mod hm2 (by simp)).cell 0
  clear hm2 HM1 HX1 AW
  go_wp2_with fail
  (with_reducible refine (PN.out _).mono ?_)
  rintro e w3 ⟨rfl, hm3⟩
  have HM3 := Lib.hid (HM2.out.trans0 hm3)
  clear hm3 HM2 x2 PN
  go_wp2_with fail
  (with_reducible refine (FN.out _).mono ?_)
  rintro e w4 ⟨rfl, rfl⟩
  go_wp2_with fail
  (with_reducible refine (BN.out _).mono ?_)
  rintro e w5 ⟨rfl, rfl⟩
  go_wp2_with fail
  (with_reducible refine (EN.out _).mono ?_)
  rintro e w6 ⟨rfl, rfl⟩
  go_wp2_with fail
  (with_reducible refine (TN.out _).mono ?_)
  rintro e w7 ⟨rfl, hm7⟩
  have HM7 := Lib.hid (HM3.out.trans0 hm7)
  clear hm7 HM3
  go_wp2_with fail
  go_ret
  exact ⟨rfl, HM7.out.below0⟩
end Go.Proofs.Ytceocpohdckkoaa.Bx
