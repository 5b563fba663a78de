/- The reference's Due. -/
import Derived.Test.YtceocpohdckkoaaAgH
import Derived.Test.YtceocpohdckkoaaAg9
namespace Go.Proofs.Ytceocpohdckkoaa.Ag
open Go.RowKit Mem
set_option linter.unusedSimpArgs false
set_option linter.unusedVariables false
set_option maxRecDepth 100000

theorem RfAt.take {w : World} {g off c : Nat} {l : List It} (i : Nat) (hi : i ≤ l.length) (hcl : l.length ≤ c) (hcm : c ≤ maxLen) (hg : ∃ cs, Blk w g cs 127)
    (h : ∀ t (ht : t < l.length), w.cell? ⟨g, off + t * 3, none⟩ = some (.int .i64 l[t].1) ∧ w.cell? ⟨g, off + t * 3 + 1, none⟩ = some (.int .i64 l[t].2.1) ∧ w.cell? ⟨g, off + t * 3 + 2, none⟩ = some (.int .i64 l[t].2.2)) :
    RfAt w (.slice (some ⟨g, off, none⟩) i c) (l.take i) := by
  have hl : (l.take i).length = i := by rw [List.length_take]; omega
  refine .inr ⟨g, off, c, by rw [hl], by omega, hcm, hg, fun t ht => ?_⟩
  rw [List.getElem_take]
  exact h t (by omega)
theorem RfAt.drop {w : World} {g off c : Nat} {l : List It} (i : Nat) (hi : i ≤ l.length) (hcl : l.length ≤ c) (hcm : c ≤ maxLen) (hg : ∃ cs, Blk w g cs 127)
    (h : ∀ t (ht : t < l.length), w.cell? ⟨g, off + t * 3, none⟩ = some (.int .i64 l[t].1) ∧ w.cell? ⟨g, off + t * 3 + 1, none⟩ = some (.int .i64 l[t].2.1) ∧ w.cell? ⟨g, off + t * 3 + 2, none⟩ = some (.int .i64 l[t].2.2)) :
    RfAt w (.slice (some ⟨g, off + i * 3, none⟩) (l.length - i) (c - i)) (l.drop i) := by
  have hl : (l.drop i).length = l.length - i := by rw [List.length_drop]
  refine .inr ⟨g, off + i * 3, c - i, by rw [hl], by omega, by omega, hg, fun t ht => ?_⟩
  rw [List.getElem_drop, show off + i * 3 + t * 3 = off + (i + t) * 3 by omega]
  exact h (i + t) (by omega)
theorem RfAt.none_at {w : World} {g off c : Nat} (hcm : c ≤ maxLen) (hg : ∃ cs, Blk w g cs 127) : RfAt w (.slice (some ⟨g, off, none⟩) 0 c) [] := .inr ⟨g, off, c, rfl, Nat.zero_le _, hcm, hg, fun t ht => by simp at ht⟩

set_option maxHeartbeats 4000000 in
theorem rdue_calls (v : Value) (last : Int) (l : List It) (now : Int) (w : World) (h : RfAt w v l) (hn : l.length ≤ 5000) :
    Calls Try.prog 65 #[agV v last, .int .i64 now] w fun e w' => ∃ v' u, e = .returned (.tuple #[agV v' last, u]) ∧ Mod w w' [] ∧ RfAt w' v' (leftI l now) ∧ RfAt w' u (dueI l now) := by
  have HR := Lib.hid h
  obtain ⟨a, c, rfl⟩ := h.slice
  have HM0 := Lib.hid (((Mod.refl w []).alloc (.cells #[.slice a l.length c, .int .i64 last] 75)).alloc (.cells #[.slice none 0 0, .int .i64 0] 75))
  have HB0 := Lib.hid ((Blk.new w #[.slice a l.length c, .int .i64 last] 75).alloc (.cells #[.slice none 0 0, .int .i64 0] 75))
  have hc0 := Blk.new (w.alloc (.cells #[.slice a l.length c, .int .i64 last] 75)) #[.slice none 0 0, .int .i64 0] 75
  rw [World.size_alloc] at hc0
  have HC0 := Lib.hid hc0
  have hn' : (l.length : Int) ≤ 5000 := by omega
  clear h hc0
  show Calls _ _ #[.agg #[.slice a l.length c, .int .i64 last], .int .i64 now] _ _
  go_enter Try.func65, Try.ntmps65
  go_wp2_with fail
  generalize (w.alloc _).alloc _ = W at HM0 HB0 HC0 ⊢
  go_loopw [6] (fun vi wr => ∃ i : Nat, i ≤ l.length ∧ vi = .int .i64 (i : Int) ∧ Mod W wr [] ∧ Hid (∀ s ∈ l.take i, s.1 ≤ now)) (fun vi _ => l.length + 1 - (intOf vi).toNat)
  case atStart => exact ⟨0, Nat.zero_le _, rfl, Mod.refl _ _, Lib.hid (by simp)⟩
  case round =>
    obtain ⟨i, hi, rfl, hm, HT⟩ := hrel
    have HM := Lib.hid (HM0.out.trans0 hm)
    have HMW := Lib.hid hm
    have HB := Lib.hid (HB0.out.mod hm (by simp))
    have HC := Lib.hid (HC0.out.mod hm (by simp))
    have c0 := HB.out.cell 0
    have c1 := HB.out.cell 1
    clear hm
    have hil0 : (i : Int) ≤ l.length := by omega
    have hi0 : (0 : Int) ≤ i := by omega
    by_cases hgo : ∃ h : i < l.length, l[i].1 ≤ now
    · obtain ⟨hlt, hle⟩ := hgo
      have hlt' : (i : Int) < l.length := by omega
      obtain ⟨g, off, cap, hv, hg, d0, d1, d2⟩ := HR.out.cells i hlt
      have e0 := keepC HM.out d0
      injection hv with q1 q2 q3
      subst q1 q3
      have HS : Hid (∀ s ∈ l.take (i + 1), s.1 ≤ now) := Lib.hid (fun s hs => by
        rw [List.take_succ_eq_append_getElem hlt, List.mem_append] at hs
        rcases hs with hs | hs
        · exact HT.out s hs
        · obtain rfl : s = l[i] := (by simpa using hs)
          exact hle)
      clear d0 d1 d2 q2
      generalize l[i] = x at *
      obtain ⟨x1, x2, x3⟩ := x
      simp only at e0 hle
      go_wp2_with fail
      go_roundw
      case rel => exact ⟨i + 1, by omega, by go_num, HMW.out, HS⟩
      case measure => simp [intOf]; omega
    · have HD := Lib.hid (due_at (S := l) (i := i) (now := now) HT.out (fun s hs => by
        rcases Nat.lt_or_ge i l.length with hlt | hge
        · rw [List.drop_eq_getElem_cons hlt] at hs
          injection hs with hs
          subst hs
          exact Int.not_le.1 (fun h => hgo ⟨hlt, h⟩)
        · rw [List.drop_eq_nil_of_le hge] at hs; cases hs))
      have hAB : w.heap.size ≠ w.heap.size + 1 := by omega
      rcases HR.out with ⟨hv, h0⟩ | ⟨g, off, cap, hv, hcl, hcm, hgl, h4⟩
      · subst h0
        injection hv with q1 q2 q3
        subst q1 q3
        have hi00 : i = 0 := by simpa using hi
        subst hi00
        clear hgo hil0 hi0 HT q2 HR
        have HFIN : Hid (∀ w4, RtC wr (w.heap.size + 1) (.slice none 0 0) (.int .i64 last) 1 w4 → Mod w w4 [] ∧ RfAt w4 (.slice none 0 0) (leftI [] now) ∧ RfAt w4 (.slice none 0 0) (dueI [] now)) := Lib.hid (fun w4 hC => by
          have hm4 : Mod w w4 [] := HM.out.trans hC.1 (fun r hr => .inr (by simp at hr; omega))
          rw [HD.out.1, HD.out.2]
          exact ⟨hm4, .inl ⟨rfl, rfl⟩, .inl ⟨rfl, rfl⟩⟩)
        go_wp2_with fail
        refine Fx.wp_region_f [11] (RtC wr (w.heap.size + 1) (.slice none 0 0) (.int .i64 last)) (by kernel_rfl) (by decide) (RtC.start HC.out) ?_
        have hSS : ∀ (m' : Nat) w', RtC wr (w.heap.size + 1) (.slice none 0 0) (.int .i64 last) m' w' → _ := fun m' w' h => (⟨h.keep c0 hAB, h.keep c1 hAB⟩ : _ ∧ _)
        have hP0 : ∀ w', RtC wr (w.heap.size + 1) (.slice none 0 0) (.int .i64 last) 0 w' → _ := fun w' h => h.store
        refine Fx.take (i := 0) (v := ?_) _ rfl (by kernel_rfl) (by kernel_rfl) (by rfl) hSS ?_ ?_
        rotate_left
        · (intro w' hSw; (try dsimp only at hSw); go_simp; first | done | with_reducible rfl)
        try simp only [List.getElem_toArray, List.getElem_cons_succ, List.getElem_cons_zero, Act.put, List.setIfInBounds_toArray, List.set_cons_zero, List.set_cons_succ]
        refine Fx.take (i := 1) (v := ?_) _ rfl (by kernel_rfl) (by kernel_rfl) (by rfl) hSS ?_ ?_
        rotate_left
        · (intro w' hSw; (try dsimp only at hSw); go_simp; first | done | with_reducible rfl)
        try simp only [List.getElem_toArray, List.getElem_cons_succ, List.getElem_cons_zero, Act.put, List.setIfInBounds_toArray, List.set_cons_zero, List.set_cons_succ]
        refine Fx.take (i := 2) (v := ?_) _ rfl (by kernel_rfl) (by kernel_rfl) (by rfl) hSS ?_ ?_
        rotate_left
        · (intro w' hSw; (try dsimp only at hSw); go_simp; first | done | with_reducible rfl)
        try simp only [List.getElem_toArray, List.getElem_cons_succ, List.getElem_cons_zero, Act.put, List.setIfInBounds_toArray, List.set_cons_zero, List.set_cons_succ]
        refine Fx.take (i := 3) (v := ?_) _ rfl (by kernel_rfl) (by kernel_rfl) (by rfl) hSS ?_ ?_
        rotate_left
        · (intro w' hSw; (try dsimp only at hSw); go_simp; first | done | with_reducible rfl)
        try simp only [List.getElem_toArray, List.getElem_cons_succ, List.getElem_cons_zero, Act.put, List.setIfInBounds_toArray, List.set_cons_zero, List.set_cons_succ]
        refine Fx.take (i := 4) (v := ?_) _ rfl (by kernel_rfl) (by kernel_rfl) (by rfl) hSS ?_ ?_
        rotate_left
        · (intro w' hSw; (try dsimp only at hSw); go_simp; first | done | with_reducible rfl)
        try simp only [List.getElem_toArray, List.getElem_cons_succ, List.getElem_cons_zero, Act.put, List.setIfInBounds_toArray, List.set_cons_zero, List.set_cons_succ]
        refine Fx.take (i := 5) (v := ?_) _ rfl (by kernel_rfl) (by kernel_rfl) (by rfl) hSS ?_ ?_
        rotate_left
        · (intro w' hSw; (try dsimp only at hSw); go_simp; first | done | with_reducible rfl)
        try simp only [List.getElem_toArray, List.getElem_cons_succ, List.getElem_cons_zero, Act.put, List.setIfInBounds_toArray, List.set_cons_zero, List.set_cons_succ]
        refine Fx.take (i := 6) (v := ?_) _ rfl (by kernel_rfl) (by kernel_rfl) (by rfl) hSS ?_ ?_
        rotate_left
        · (intro w' hSw; (try dsimp only at hSw); go_simp; first | done | with_reducible rfl)
        try simp only [List.getElem_toArray, List.getElem_cons_succ, List.getElem_cons_zero, Act.put, List.setIfInBounds_toArray, List.set_cons_zero, List.set_cons_succ]
        refine Fx.take (i := 7) (v := ?_) _ rfl (by kernel_rfl) (by kernel_rfl) (by rfl) hSS ?_ ?_
        rotate_left
        · (intro w' hSw; (try dsimp only at hSw); go_simp; first | done | with_reducible rfl)
        try simp only [List.getElem_toArray, List.getElem_cons_succ, List.getElem_cons_zero, Act.put, List.setIfInBounds_toArray, List.set_cons_zero, List.set_cons_succ]
        refine Fx.take (i := 8) (v := ?_) _ rfl (by kernel_rfl) (by kernel_rfl) (by rfl) hSS ?_ ?_
        rotate_left
        · (intro w' hSw; (try dsimp only at hSw); go_simp; first | done | with_reducible rfl)
        try simp only [List.getElem_toArray, List.getElem_cons_succ, List.getElem_cons_zero, Act.put, List.setIfInBounds_toArray, List.set_cons_zero, List.set_cons_succ]
        refine Fx.take (i := 9) (v := ?_) _ rfl (by kernel_rfl) (by kernel_rfl) (by rfl) hSS ?_ ?_
        rotate_left
        · (intro w' hSw; (try dsimp only at hSw); go_simp; first | done | with_reducible rfl)
        try simp only [List.getElem_toArray, List.getElem_cons_succ, List.getElem_cons_zero, Act.put, List.setIfInBounds_toArray, List.set_cons_zero, List.set_cons_succ]
        refine Fx.take (i := 10) (v := ?_) _ rfl (by kernel_rfl) (by kernel_rfl) (by rfl) hSS ?_ ?_
        rotate_left
        · (intro w' hSw; (try dsimp only at hSw); go_simp; first | done | with_reducible rfl)
        try simp only [List.getElem_toArray, List.getElem_cons_succ, List.getElem_cons_zero, Act.put, List.setIfInBounds_toArray, List.set_cons_zero, List.set_cons_succ]
        refine Fx.put (i := 11) 0 ?_ rfl (by kernel_rfl) (by kernel_rfl) (by rfl) (by kernel_rfl) (by kernel_rfl) ?_ ?_ ?_
        rotate_left
        · (intro w' hC; obtain hSw := hP0 _ hC; (try dsimp only at hSw); go_simp; first | done | with_reducible rfl)
        · (exact fun w' h => h.put)
        try simp only [List.getElem_toArray, List.getElem_cons_succ, List.getElem_cons_zero, Act.put, List.setIfInBounds_toArray, List.set_cons_zero, List.set_cons_succ]
        refine Fx.take (i := 12) (v := ?_) _ rfl (by kernel_rfl) (by kernel_rfl) (by rfl) hSS ?_ ?_
        rotate_left
        · (intro w' hSw; (try dsimp only at hSw); go_simp; first | done | with_reducible rfl)
        try simp only [List.getElem_toArray, List.getElem_cons_succ, List.getElem_cons_zero, Act.put, List.setIfInBounds_toArray, List.set_cons_zero, List.set_cons_succ]
        refine Fx.done 1 (by kernel_rfl) (by kernel_rfl) (fun w4 hC => ?_)
        have HC4 := Lib.hid hC.2
        have f0 := HC4.out.cell 0
        have f1 := HC4.out.cell 1
        have f2 := HC4.out.lt
        have HF := Lib.hid (HFIN.out w4 hC)
        clear hC hSS hP0 HFIN
        go_wp2_with fail
        refine bodyPost_ret (v := .tuple #[.agg #[.slice none 0 0, .int .i64 last], .slice none 0 0]) (by simp [results, Try.results65, go_sem, f0, f1, f2]) rfl ⟨.slice none 0 0, .slice none 0 0, rfl, HF.out.1, HF.out.2.1, HF.out.2.2⟩
      · injection hv with q1 q2 q3
        subst q1 q3
        have hcl' : (l.length : Int) ≤ c := by omega
        have hic : (i : Int) ≤ c := by omega
        have hbl : g < w.heap.size := hgl.elim fun _ hb => hb.lt
        have HGL := Lib.hid hgl
        clear hgl
        have H4 := Lib.hid h4
        by_cases hlt : i < l.length
        · have hlt' : (i : Int) < l.length := by omega
          have hci : ¬ c = i := by omega
          have e0 := keepC HM.out (h4 i hlt).1
          have hx : ¬ l[i].1 ≤ now := fun h => hgo ⟨hlt, h⟩
          generalize l[i].1 = x1 at *
          have hx' : now < x1 := by omega
          clear hx hgo q2 HT h4 HR
          have HFIN : Hid (∀ w4, RtC wr (w.heap.size + 1) (.slice (some ⟨g, off + i * 3, none⟩) (l.length - i) (c - i)) (.int .i64 last) 1 w4 → Mod w w4 [] ∧ RfAt w4 (.slice (some ⟨g, off + i * 3, none⟩) (l.length - i) (c - i)) (leftI l now) ∧ RfAt w4 (.slice (some ⟨g, off, none⟩) i c) (dueI l now)) := Lib.hid (fun w4 hC => by
            have hm4 : Mod w w4 [] := HM.out.trans hC.1 (fun r hr => .inr (by simp at hr; omega))
            rw [HD.out.1, HD.out.2]
            exact ⟨hm4, RfAt.drop i hi hcl hcm (HGL.out.elim fun cs hb => ⟨cs, hb.mod hm4 (by simp)⟩) (fun t ht => ⟨keepC hm4 (H4.out t ht).1, keepC hm4 (H4.out t ht).2.1, keepC hm4 (H4.out t ht).2.2⟩), RfAt.take i hi hcl hcm (HGL.out.elim fun cs hb => ⟨cs, hb.mod hm4 (by simp)⟩) (fun t ht => ⟨keepC hm4 (H4.out t ht).1, keepC hm4 (H4.out t ht).2.1, keepC hm4 (H4.out t ht).2.2⟩)⟩)
          go_wp2_with fail
          refine Fx.wp_region_f [11] (RtC wr (w.heap.size + 1) (.slice (some ⟨g, off + i * 3, none⟩) (l.length - i) (c - i)) (.int .i64 last)) (by kernel_rfl) (by decide) (RtC.start HC.out) ?_
          have hSS : ∀ (m' : Nat) w', RtC wr (w.heap.size + 1) (.slice (some ⟨g, off + i * 3, none⟩) (l.length - i) (c - i)) (.int .i64 last) m' w' → _ := fun m' w' h => (⟨h.keep c0 hAB, h.keep c1 hAB⟩ : _ ∧ _)
          have hP0 : ∀ w', RtC wr (w.heap.size + 1) (.slice (some ⟨g, off + i * 3, none⟩) (l.length - i) (c - i)) (.int .i64 last) 0 w' → _ := fun w' h => h.store
          refine Fx.take (i := 0) (v := ?_) _ rfl (by kernel_rfl) (by kernel_rfl) (by rfl) hSS ?_ ?_
          rotate_left
          · (intro w' hSw; (try dsimp only at hSw); go_simp; first | done | with_reducible rfl)
          try simp only [List.getElem_toArray, List.getElem_cons_succ, List.getElem_cons_zero, Act.put, List.setIfInBounds_toArray, List.set_cons_zero, List.set_cons_succ]
          refine Fx.take (i := 1) (v := ?_) _ rfl (by kernel_rfl) (by kernel_rfl) (by rfl) hSS ?_ ?_
          rotate_left
          · (intro w' hSw; (try dsimp only at hSw); go_simp; first | done | with_reducible rfl)
          try simp only [List.getElem_toArray, List.getElem_cons_succ, List.getElem_cons_zero, Act.put, List.setIfInBounds_toArray, List.set_cons_zero, List.set_cons_succ]
          refine Fx.take (i := 2) (v := ?_) _ rfl (by kernel_rfl) (by kernel_rfl) (by rfl) hSS ?_ ?_
          rotate_left
          · (intro w' hSw; (try dsimp only at hSw); go_simp; first | done | with_reducible rfl)
          try simp only [List.getElem_toArray, List.getElem_cons_succ, List.getElem_cons_zero, Act.put, List.setIfInBounds_toArray, List.set_cons_zero, List.set_cons_succ]
          refine Fx.take (i := 3) (v := ?_) _ rfl (by kernel_rfl) (by kernel_rfl) (by rfl) hSS ?_ ?_
          rotate_left
          · (intro w' hSw; (try dsimp only at hSw); go_simp; first | done | with_reducible rfl)
          try simp only [List.getElem_toArray, List.getElem_cons_succ, List.getElem_cons_zero, Act.put, List.setIfInBounds_toArray, List.set_cons_zero, List.set_cons_succ]
          refine Fx.take (i := 4) (v := ?_) _ rfl (by kernel_rfl) (by kernel_rfl) (by rfl) hSS ?_ ?_
          rotate_left
          · (intro w' hSw; (try dsimp only at hSw); go_simp; first | done | with_reducible rfl)
          try simp only [List.getElem_toArray, List.getElem_cons_succ, List.getElem_cons_zero, Act.put, List.setIfInBounds_toArray, List.set_cons_zero, List.set_cons_succ]
          refine Fx.take (i := 5) (v := ?_) _ rfl (by kernel_rfl) (by kernel_rfl) (by rfl) hSS ?_ ?_
          rotate_left
          · (intro w' hSw; (try dsimp only at hSw); go_simp; first | done | with_reducible rfl)
          try simp only [List.getElem_toArray, List.getElem_cons_succ, List.getElem_cons_zero, Act.put, List.setIfInBounds_toArray, List.set_cons_zero, List.set_cons_succ]
          refine Fx.take (i := 6) (v := ?_) _ rfl (by kernel_rfl) (by kernel_rfl) (by rfl) hSS ?_ ?_
          rotate_left
          · (intro w' hSw; (try dsimp only at hSw); go_simp; first | done | with_reducible rfl)
          try simp only [List.getElem_toArray, List.getElem_cons_succ, List.getElem_cons_zero, Act.put, List.setIfInBounds_toArray, List.set_cons_zero, List.set_cons_succ]
          refine Fx.take (i := 7) (v := ?_) _ rfl (by kernel_rfl) (by kernel_rfl) (by rfl) hSS ?_ ?_
          rotate_left
          · (intro w' hSw; (try dsimp only at hSw); go_simp; first | done | with_reducible rfl)
          try simp only [List.getElem_toArray, List.getElem_cons_succ, List.getElem_cons_zero, Act.put, List.setIfInBounds_toArray, List.set_cons_zero, List.set_cons_succ]
          refine Fx.take (i := 8) (v := ?_) _ rfl (by kernel_rfl) (by kernel_rfl) (by rfl) hSS ?_ ?_
          rotate_left
          · (intro w' hSw; (try dsimp only at hSw); go_simp; first | done | with_reducible rfl)
          try simp only [List.getElem_toArray, List.getElem_cons_succ, List.getElem_cons_zero, Act.put, List.setIfInBounds_toArray, List.set_cons_zero, List.set_cons_succ]
          refine Fx.take (i := 9) (v := ?_) _ rfl (by kernel_rfl) (by kernel_rfl) (by rfl) hSS ?_ ?_
          rotate_left
          · (intro w' hSw; (try dsimp only at hSw); go_simp; first | done | with_reducible rfl)
          try simp only [List.getElem_toArray, List.getElem_cons_succ, List.getElem_cons_zero, Act.put, List.setIfInBounds_toArray, List.set_cons_zero, List.set_cons_succ]
          refine Fx.take (i := 10) (v := ?_) _ rfl (by kernel_rfl) (by kernel_rfl) (by rfl) hSS ?_ ?_
          rotate_left
          · (intro w' hSw; (try dsimp only at hSw); go_simp; first | done | with_reducible rfl)
          try simp only [List.getElem_toArray, List.getElem_cons_succ, List.getElem_cons_zero, Act.put, List.setIfInBounds_toArray, List.set_cons_zero, List.set_cons_succ]
          refine Fx.put (i := 11) 0 ?_ rfl (by kernel_rfl) (by kernel_rfl) (by rfl) (by kernel_rfl) (by kernel_rfl) ?_ ?_ ?_
          rotate_left
          · (intro w' hC; obtain hSw := hP0 _ hC; (try dsimp only at hSw); go_simp; first | done | with_reducible rfl)
          · (exact fun w' h => h.put)
          try simp only [List.getElem_toArray, List.getElem_cons_succ, List.getElem_cons_zero, Act.put, List.setIfInBounds_toArray, List.set_cons_zero, List.set_cons_succ]
          refine Fx.take (i := 12) (v := ?_) _ rfl (by kernel_rfl) (by kernel_rfl) (by rfl) hSS ?_ ?_
          rotate_left
          · (intro w' hSw; (try dsimp only at hSw); go_simp; first | done | with_reducible rfl)
          try simp only [List.getElem_toArray, List.getElem_cons_succ, List.getElem_cons_zero, Act.put, List.setIfInBounds_toArray, List.set_cons_zero, List.set_cons_succ]
          refine Fx.done 1 (by kernel_rfl) (by kernel_rfl) (fun w4 hC => ?_)
          have HC4 := Lib.hid hC.2
          have f0 := HC4.out.cell 0
          have f1 := HC4.out.cell 1
          have f2 := HC4.out.lt
          have HF := Lib.hid (HFIN.out w4 hC)
          clear hC hSS hP0 HFIN
          go_wp2_with fail
          refine bodyPost_ret (v := .tuple #[.agg #[.slice (some ⟨g, off + i * 3, none⟩) (l.length - i) (c - i), .int .i64 last], .slice (some ⟨g, off, none⟩) i c]) (by simp [results, Try.results65, go_sem, f0, f1, f2]) rfl ⟨.slice (some ⟨g, off + i * 3, none⟩) (l.length - i) (c - i), .slice (some ⟨g, off, none⟩) i c, rfl, HF.out.1, HF.out.2.1, HF.out.2.2⟩
        · have HIE := Lib.hid (show i = l.length by omega)
          have hge : (l.length : Int) ≤ i := by omega
          have HZ := Lib.hid (show l.length - i = 0 by omega)
          by_cases hci : c = i
          · subst hci
            clear hgo q2 HT h4 HR
            have HFIN : Hid (∀ w4, RtC wr (w.heap.size + 1) (.slice (some ⟨g, off, none⟩) 0 0) (.int .i64 last) 1 w4 → Mod w w4 [] ∧ RfAt w4 (.slice (some ⟨g, off, none⟩) 0 0) (leftI l now) ∧ RfAt w4 (.slice (some ⟨g, off, none⟩) c c) (dueI l now)) := Lib.hid (fun w4 hC => by
              have hm4 : Mod w w4 [] := HM.out.trans hC.1 (fun r hr => .inr (by simp at hr; omega))
              rw [HD.out.1, HD.out.2]
              exact ⟨hm4, by rw [show l.drop c = [] from List.drop_eq_nil_of_le (by have := HIE.out; omega)]; exact RfAt.none_at (by unfold maxLen; omega) (HGL.out.elim fun cs hb => ⟨cs, hb.mod hm4 (by simp)⟩), RfAt.take c hi hcl hcm (HGL.out.elim fun cs hb => ⟨cs, hb.mod hm4 (by simp)⟩) (fun t ht => ⟨keepC hm4 (H4.out t ht).1, keepC hm4 (H4.out t ht).2.1, keepC hm4 (H4.out t ht).2.2⟩)⟩)
            go_wp2_with fail
            refine Fx.wp_region_f [11] (RtC wr (w.heap.size + 1) (.slice (some ⟨g, off, none⟩) 0 0) (.int .i64 last)) (by kernel_rfl) (by decide) (RtC.start HC.out) ?_
            have hSS : ∀ (m' : Nat) w', RtC wr (w.heap.size + 1) (.slice (some ⟨g, off, none⟩) 0 0) (.int .i64 last) m' w' → _ := fun m' w' h => (⟨h.keep c0 hAB, h.keep c1 hAB⟩ : _ ∧ _)
            have hP0 : ∀ w', RtC wr (w.heap.size + 1) (.slice (some ⟨g, off, none⟩) 0 0) (.int .i64 last) 0 w' → _ := fun w' h => h.store
            refine Fx.take (i := 0) (v := ?_) _ rfl (by kernel_rfl) (by kernel_rfl) (by rfl) hSS ?_ ?_
            rotate_left
            · (intro w' hSw; (try dsimp only at hSw); go_simp; first | done | with_reducible rfl)
            try simp only [List.getElem_toArray, List.getElem_cons_succ, List.getElem_cons_zero, Act.put, List.setIfInBounds_toArray, List.set_cons_zero, List.set_cons_succ]
            refine Fx.take (i := 1) (v := ?_) _ rfl (by kernel_rfl) (by kernel_rfl) (by rfl) hSS ?_ ?_
            rotate_left
            · (intro w' hSw; (try dsimp only at hSw); go_simp; first | done | with_reducible rfl)
            try simp only [List.getElem_toArray, List.getElem_cons_succ, List.getElem_cons_zero, Act.put, List.setIfInBounds_toArray, List.set_cons_zero, List.set_cons_succ]
            refine Fx.take (i := 2) (v := ?_) _ rfl (by kernel_rfl) (by kernel_rfl) (by rfl) hSS ?_ ?_
            rotate_left
            · (intro w' hSw; (try dsimp only at hSw); go_simp; first | done | with_reducible rfl)
            try simp only [List.getElem_toArray, List.getElem_cons_succ, List.getElem_cons_zero, Act.put, List.setIfInBounds_toArray, List.set_cons_zero, List.set_cons_succ]
            refine Fx.take (i := 3) (v := ?_) _ rfl (by kernel_rfl) (by kernel_rfl) (by rfl) hSS ?_ ?_
            rotate_left
            · (intro w' hSw; (try dsimp only at hSw); go_simp; first | done | with_reducible rfl)
            try simp only [List.getElem_toArray, List.getElem_cons_succ, List.getElem_cons_zero, Act.put, List.setIfInBounds_toArray, List.set_cons_zero, List.set_cons_succ]
            refine Fx.take (i := 4) (v := ?_) _ rfl (by kernel_rfl) (by kernel_rfl) (by rfl) hSS ?_ ?_
            rotate_left
            · (intro w' hSw; (try dsimp only at hSw); go_simp; first | done | with_reducible rfl)
            try simp only [List.getElem_toArray, List.getElem_cons_succ, List.getElem_cons_zero, Act.put, List.setIfInBounds_toArray, List.set_cons_zero, List.set_cons_succ]
            refine Fx.take (i := 5) (v := ?_) _ rfl (by kernel_rfl) (by kernel_rfl) (by rfl) hSS ?_ ?_
            rotate_left
            · (intro w' hSw; (try dsimp only at hSw); go_simp; first | done | with_reducible rfl)
            try simp only [List.getElem_toArray, List.getElem_cons_succ, List.getElem_cons_zero, Act.put, List.setIfInBounds_toArray, List.set_cons_zero, List.set_cons_succ]
            refine Fx.take (i := 6) (v := ?_) _ rfl (by kernel_rfl) (by kernel_rfl) (by rfl) hSS ?_ ?_
            rotate_left
            · (intro w' hSw; (try dsimp only at hSw); go_simp; first | done | with_reducible rfl)
            try simp only [List.getElem_toArray, List.getElem_cons_succ, List.getElem_cons_zero, Act.put, List.setIfInBounds_toArray, List.set_cons_zero, List.set_cons_succ]
            refine Fx.take (i := 7) (v := ?_) _ rfl (by kernel_rfl) (by kernel_rfl) (by rfl) hSS ?_ ?_
            rotate_left
            · (intro w' hSw; (try dsimp only at hSw); go_simp; first | done | with_reducible rfl)
            try simp only [List.getElem_toArray, List.getElem_cons_succ, List.getElem_cons_zero, Act.put, List.setIfInBounds_toArray, List.set_cons_zero, List.set_cons_succ]
            refine Fx.take (i := 8) (v := ?_) _ rfl (by kernel_rfl) (by kernel_rfl) (by rfl) hSS ?_ ?_
            rotate_left
            · (intro w' hSw; (try dsimp only at hSw); go_simp; first | done | with_reducible rfl)
            try simp only [List.getElem_toArray, List.getElem_cons_succ, List.getElem_cons_zero, Act.put, List.setIfInBounds_toArray, List.set_cons_zero, List.set_cons_succ]
            refine Fx.take (i := 9) (v := ?_) _ rfl (by kernel_rfl) (by kernel_rfl) (by rfl) hSS ?_ ?_
            rotate_left
            · (intro w' hSw; (try dsimp only at hSw); go_simp; first | done | with_reducible rfl)
            try simp only [List.getElem_toArray, List.getElem_cons_succ, List.getElem_cons_zero, Act.put, List.setIfInBounds_toArray, List.set_cons_zero, List.set_cons_succ]
            refine Fx.take (i := 10) (v := ?_) _ rfl (by kernel_rfl) (by kernel_rfl) (by rfl) hSS ?_ ?_
            rotate_left
            · (intro w' hSw; (try dsimp only at hSw); go_simp; first | done | with_reducible rfl)
            try simp only [List.getElem_toArray, List.getElem_cons_succ, List.getElem_cons_zero, Act.put, List.setIfInBounds_toArray, List.set_cons_zero, List.set_cons_succ]
            refine Fx.put (i := 11) 0 ?_ rfl (by kernel_rfl) (by kernel_rfl) (by rfl) (by kernel_rfl) (by kernel_rfl) ?_ ?_ ?_
            rotate_left
            · (intro w' hC; obtain hSw := hP0 _ hC; (try dsimp only at hSw); go_simp; first | done | with_reducible rfl)
            · (exact fun w' h => h.put)
            try simp only [List.getElem_toArray, List.getElem_cons_succ, List.getElem_cons_zero, Act.put, List.setIfInBounds_toArray, List.set_cons_zero, List.set_cons_succ]
            refine Fx.take (i := 12) (v := ?_) _ rfl (by kernel_rfl) (by kernel_rfl) (by rfl) hSS ?_ ?_
            rotate_left
            · (intro w' hSw; (try dsimp only at hSw); go_simp; first | done | with_reducible rfl)
            try simp only [List.getElem_toArray, List.getElem_cons_succ, List.getElem_cons_zero, Act.put, List.setIfInBounds_toArray, List.set_cons_zero, List.set_cons_succ]
            refine Fx.done 1 (by kernel_rfl) (by kernel_rfl) (fun w4 hC => ?_)
            have HC4 := Lib.hid hC.2
            have f0 := HC4.out.cell 0
            have f1 := HC4.out.cell 1
            have f2 := HC4.out.lt
            have HF := Lib.hid (HFIN.out w4 hC)
            clear hC hSS hP0 HFIN
            go_wp2_with fail
            refine bodyPost_ret (v := .tuple #[.agg #[.slice (some ⟨g, off, none⟩) 0 0, .int .i64 last], .slice (some ⟨g, off, none⟩) c c]) (by simp [results, Try.results65, go_sem, f0, f1, f2]) rfl ⟨.slice (some ⟨g, off, none⟩) 0 0, .slice (some ⟨g, off, none⟩) c c, rfl, HF.out.1, HF.out.2.1, HF.out.2.2⟩
          · clear hgo q2 HT h4 HR
            have HFIN : Hid (∀ w4, RtC wr (w.heap.size + 1) (.slice (some ⟨g, off + i * 3, none⟩) (l.length - i) (c - i)) (.int .i64 last) 1 w4 → Mod w w4 [] ∧ RfAt w4 (.slice (some ⟨g, off + i * 3, none⟩) (l.length - i) (c - i)) (leftI l now) ∧ RfAt w4 (.slice (some ⟨g, off, none⟩) i c) (dueI l now)) := Lib.hid (fun w4 hC => by
              have hm4 : Mod w w4 [] := HM.out.trans hC.1 (fun r hr => .inr (by simp at hr; omega))
              rw [HD.out.1, HD.out.2]
              exact ⟨hm4, RfAt.drop i hi hcl hcm (HGL.out.elim fun cs hb => ⟨cs, hb.mod hm4 (by simp)⟩) (fun t ht => ⟨keepC hm4 (H4.out t ht).1, keepC hm4 (H4.out t ht).2.1, keepC hm4 (H4.out t ht).2.2⟩), RfAt.take i hi hcl hcm (HGL.out.elim fun cs hb => ⟨cs, hb.mod hm4 (by simp)⟩) (fun t ht => ⟨keepC hm4 (H4.out t ht).1, keepC hm4 (H4.out t ht).2.1, keepC hm4 (H4.out t ht).2.2⟩)⟩)
            go_wp2_with fail
            refine Fx.wp_region_f [11] (RtC wr (w.heap.size + 1) (.slice (some ⟨g, off + i * 3, none⟩) (l.length - i) (c - i)) (.int .i64 last)) (by kernel_rfl) (by decide) (RtC.start HC.out) ?_
            have hSS : ∀ (m' : Nat) w', RtC wr (w.heap.size + 1) (.slice (some ⟨g, off + i * 3, none⟩) (l.length - i) (c - i)) (.int .i64 last) m' w' → _ := fun m' w' h => (⟨h.keep c0 hAB, h.keep c1 hAB⟩ : _ ∧ _)
            have hP0 : ∀ w', RtC wr (w.heap.size + 1) (.slice (some ⟨g, off + i * 3, none⟩) (l.length - i) (c - i)) (.int .i64 last) 0 w' → _ := fun w' h => h.store
            refine Fx.take (i := 0) (v := ?_) _ rfl (by kernel_rfl) (by kernel_rfl) (by rfl) hSS ?_ ?_
            rotate_left
            · (intro w' hSw; (try dsimp only at hSw); go_simp; first | done | with_reducible rfl)
            try simp only [List.getElem_toArray, List.getElem_cons_succ, List.getElem_cons_zero, Act.put, List.setIfInBounds_toArray, List.set_cons_zero, List.set_cons_succ]
            refine Fx.take (i := 1) (v := ?_) _ rfl (by kernel_rfl) (by kernel_rfl) (by rfl) hSS ?_ ?_
            rotate_left
            · (intro w' hSw; (try dsimp only at hSw); go_simp; first | done | with_reducible rfl)
            try simp only [List.getElem_toArray, List.getElem_cons_succ, List.getElem_cons_zero, Act.put, List.setIfInBounds_toArray, List.set_cons_zero, List.set_cons_succ]
            refine Fx.take (i := 2) (v := ?_) _ rfl (by kernel_rfl) (by kernel_rfl) (by rfl) hSS ?_ ?_
            rotate_left
            · (intro w' hSw; (try dsimp only at hSw); go_simp; first | done | with_reducible rfl)
            try simp only [List.getElem_toArray, List.getElem_cons_succ, List.getElem_cons_zero, Act.put, List.setIfInBounds_toArray, List.set_cons_zero, List.set_cons_succ]
            refine Fx.take (i := 3) (v := ?_) _ rfl (by kernel_rfl) (by kernel_rfl) (by rfl) hSS ?_ ?_
            rotate_left
            · (intro w' hSw; (try dsimp only at hSw); go_simp; first | done | with_reducible rfl)
            try simp only [List.getElem_toArray, List.getElem_cons_succ, List.getElem_cons_zero, Act.put, List.setIfInBounds_toArray, List.set_cons_zero, List.set_cons_succ]
            refine Fx.take (i := 4) (v := ?_) _ rfl (by kernel_rfl) (by kernel_rfl) (by rfl) hSS ?_ ?_
            rotate_left
            · (intro w' hSw; (try dsimp only at hSw); go_simp; first | done | with_reducible rfl)
            try simp only [List.getElem_toArray, List.getElem_cons_succ, List.getElem_cons_zero, Act.put, List.setIfInBounds_toArray, List.set_cons_zero, List.set_cons_succ]
            refine Fx.take (i := 5) (v := ?_) _ rfl (by kernel_rfl) (by kernel_rfl) (by rfl) hSS ?_ ?_
            rotate_left
            · (intro w' hSw; (try dsimp only at hSw); go_simp; first | done | with_reducible rfl)
            try simp only [List.getElem_toArray, List.getElem_cons_succ, List.getElem_cons_zero, Act.put, List.setIfInBounds_toArray, List.set_cons_zero, List.set_cons_succ]
            refine Fx.take (i := 6) (v := ?_) _ rfl (by kernel_rfl) (by kernel_rfl) (by rfl) hSS ?_ ?_
            rotate_left
            · (intro w' hSw; (try dsimp only at hSw); go_simp; first | done | with_reducible rfl)
            try simp only [List.getElem_toArray, List.getElem_cons_succ, List.getElem_cons_zero, Act.put, List.setIfInBounds_toArray, List.set_cons_zero, List.set_cons_succ]
            refine Fx.take (i := 7) (v := ?_) _ rfl (by kernel_rfl) (by kernel_rfl) (by rfl) hSS ?_ ?_
            rotate_left
            · (intro w' hSw; (try dsimp only at hSw); go_simp; first | done | with_reducible rfl)
            try simp only [List.getElem_toArray, List.getElem_cons_succ, List.getElem_cons_zero, Act.put, List.setIfInBounds_toArray, List.set_cons_zero, List.set_cons_succ]
            refine Fx.take (i := 8) (v := ?_) _ rfl (by kernel_rfl) (by kernel_rfl) (by rfl) hSS ?_ ?_
            rotate_left
            · (intro w' hSw; (try dsimp only at hSw); go_simp; first | done | with_reducible rfl)
            try simp only [List.getElem_toArray, List.getElem_cons_succ, List.getElem_cons_zero, Act.put, List.setIfInBounds_toArray, List.set_cons_zero, List.set_cons_succ]
            refine Fx.take (i := 9) (v := ?_) _ rfl (by kernel_rfl) (by kernel_rfl) (by rfl) hSS ?_ ?_
            rotate_left
            · (intro w' hSw; (try dsimp only at hSw); go_simp; first | done | with_reducible rfl)
            try simp only [List.getElem_toArray, List.getElem_cons_succ, List.getElem_cons_zero, Act.put, List.setIfInBounds_toArray, List.set_cons_zero, List.set_cons_succ]
            refine Fx.take (i := 10) (v := ?_) _ rfl (by kernel_rfl) (by kernel_rfl) (by rfl) hSS ?_ ?_
            rotate_left
            · (intro w' hSw; (try dsimp only at hSw); go_simp; first | done | with_reducible rfl)
            try simp only [List.getElem_toArray, List.getElem_cons_succ, List.getElem_cons_zero, Act.put, List.setIfInBounds_toArray, List.set_cons_zero, List.set_cons_succ]
            refine Fx.put (i := 11) 0 ?_ rfl (by kernel_rfl) (by kernel_rfl) (by rfl) (by kernel_rfl) (by kernel_rfl) ?_ ?_ ?_
            rotate_left
            · (intro w' hC; obtain hSw := hP0 _ hC; (try dsimp only at hSw); go_simp; first | done | with_reducible rfl)
            · (exact fun w' h => h.put)
            try simp only [List.getElem_toArray, List.getElem_cons_succ, List.getElem_cons_zero, Act.put, List.setIfInBounds_toArray, List.set_cons_zero, List.set_cons_succ]
            refine Fx.take (i := 12) (v := ?_) _ rfl (by kernel_rfl) (by kernel_rfl) (by rfl) hSS ?_ ?_
            rotate_left
            · (intro w' hSw; (try dsimp only at hSw); go_simp; first | done | with_reducible rfl)
            try simp only [List.getElem_toArray, List.getElem_cons_succ, List.getElem_cons_zero, Act.put, List.setIfInBounds_toArray, List.set_cons_zero, List.set_cons_succ]
            refine Fx.done 1 (by kernel_rfl) (by kernel_rfl) (fun w4 hC => ?_)
            have HC4 := Lib.hid hC.2
            have f0 := HC4.out.cell 0
            have f1 := HC4.out.cell 1
            have f2 := HC4.out.lt
            have HF := Lib.hid (HFIN.out w4 hC)
            clear hC hSS hP0 HFIN
            go_wp2_with fail
            refine bodyPost_ret (v := .tuple #[.agg #[.slice (some ⟨g, off + i * 3, none⟩) (l.length - i) (c - i), .int .i64 last], .slice (some ⟨g, off, none⟩) i c]) (by simp [results, Try.results65, go_sem, f0, f1, f2]) rfl ⟨.slice (some ⟨g, off + i * 3, none⟩) (l.length - i) (c - i), .slice (some ⟨g, off, none⟩) i c, rfl, HF.out.1, HF.out.2.1, HF.out.2.2⟩
end Go.Proofs.Ytceocpohdckkoaa.Ag
