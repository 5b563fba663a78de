/- The law's refs, the reference's Same. -/
import Derived.Test.YtcbafomhifdgpaaSs9
import Derived.Test.YtcbafomhifdgpaaSs8
import Derived.Laws.StructEq
namespace Go.Proofs.Ytcbafomhifdgpaa.Ss
open Go.RowKit Mem Si Bits
set_option linter.unusedSimpArgs false
set_option linter.unusedVariables false
set_option maxRecDepth 100000

/-- A row of the reference's sessions. -/
def RefAt (w : World) (base : Nat) (v : Value) (l : List Sn) : Prop := w.ownsRow base 108 2 v l.length (rowsC l)
theorem RefAt.mod {w w' : World} {base : Nat} {v : Value} {l : List Sn} {R : List Nat} (h : RefAt w base v l) (m : Mod w w' R) (hR : ∀ k, v.ownBlock = some k → k ∉ R) : RefAt w' base v l := own_mod h m hR
theorem RefAt.shape {w : World} {base : Nat} {v : Value} {l : List Sn} (h : RefAt w base v l) :
    (v = .slice none 0 0 ∧ l = []) ∨ ∃ g cap, v = .slice (some ⟨g, 0, none⟩) l.length cap ∧ base ≤ g ∧ l.length ≤ cap ∧ cap ≤ maxLen ∧
      ∀ i (hi : i < l.length), w.cell? ⟨g, i * 2, none⟩ = some (.int .i64 l[i].1) ∧ w.cell? ⟨g, i * 2 + 1, none⟩ = some (.int .i64 l[i].2) := by
  rcases Rw.own_cellN h with ⟨h1, h2, _⟩ | ⟨g, cap, h1, h2, h3, h4, h5, h6⟩
  · exact .inl ⟨h1, List.eq_nil_of_length_eq_zero h2⟩
  · refine .inr ⟨g, cap, h1, h2, h3, h4, fun i hi => ?_⟩
    obtain ⟨e0, e1⟩ := rowsC_get l i hi
    obtain ⟨q0, q0'⟩ := List.getElem?_eq_some_iff.1 e0
    obtain ⟨q1, q1'⟩ := List.getElem?_eq_some_iff.1 e1
    exact ⟨by rw [h6 _ q0, q0'], by rw [h6 _ q1, q1']⟩
theorem info_ref : (Try.prog.info? 108).map (fun i => (i.zero, i.size, i.bytes)) = some (some (.agg #[.int .i64 0, .int .i64 0]), 2, 16) := by kernel_rfl

set_option maxHeartbeats 2000000 in
theorem refs_calls (base : Nat) (v : Value) (l : List Sn) (w : World) (h : RowsAt w base v l) (hn : l.length ≤ 1000) :
    Calls Try.prog 26 #[v] w fun e w' => ∃ v', e = .returned v' ∧ Mod w w' [] ∧ RefAt w' w.heap.size v' l := by
  obtain ⟨i0, hi0, hz0, hz1, hz2⟩ := info_parts info_ref
  have HR := Lib.hid h
  obtain ⟨a, c, rfl⟩ := Rw.own_slice h
  clear h
  have hn' : (l.length : Int) ≤ 1000 := by omega
  go_enter Try.func26, Try.ntmps26
  go_wp2_with fail
  go_loopw [3, 4] (fun vl vi wr => ∃ (i : Nat) (ga : Option Addr) (gc : Nat), i ≤ l.length ∧ vl = .slice ga i gc ∧ vi = .int .i64 (i : Int) ∧ Mod w wr [] ∧ RefAt wr w.heap.size (.slice ga i gc) (l.take i)) (fun _ vi _ => l.length + 1 - (intOf vi).toNat)
  case atStart => exact ⟨0, none, 0, Nat.zero_le _, rfl, rfl, Mod.refl _ _, World.ownsRow_nil _ _ _ _⟩
  case round =>
    obtain ⟨i, ga, gc, hi, rfl, rfl, hm, hrow⟩ := hrel
    have HM := Lib.hid hm
    have htl : (l.take i).length = i := by rw [List.length_take]; omega
    have hown : wr.ownsRow w.heap.size 108 2 (.slice ga i gc) i (rowsC (l.take i)) := by have h := hrow; unfold RefAt at h; rw [htl] at h; exact h
    by_cases hlt : i < l.length
    · have hlt' : (i : Int) < l.length := by omega
      have HS := Lib.hid (show rowsC (l.take (i + 1)) = rowsC (l.take i) ++ rowC (l[i]'hlt) by rw [List.take_succ_eq_append_getElem hlt, rowsC_append]; simp [rowsC])
      rcases HR.out.shape with ⟨_, h0⟩ | ⟨g, cap, hv, h1, h2, h3, h4⟩
      · rw [h0] at hlt; simp at hlt
      · obtain ⟨d0, d1⟩ := h4 i hlt
        have c0 := keepC HM.out d0
        have c1 := keepC HM.out d1
        injection hv with e1 e2 e3
        subst e1 e3
        clear d0 d1 h4 e2 hm
        generalize l[i]'hlt = x at *
        obtain ⟨x1, x2⟩ := x
        simp only at c0 c1
        have HO := Lib.hid hown
        have H2C := Lib.hid (two_cells (Blk.new wr #[.int .i64 x1, .int .i64 x2] 108))
        clear hown hrow
        generalize hys : rowsC (l.take i) = ys at *
        go_wp2_with (at_builtin; refine wpList_append_own _ rfl _ _ 55 rfl w.heap.size 108 i0 _ 2 16 Try.underlying55 hi0 hz0 hz1 hz2 rfl (by decide) _ _ _ rfl (HO.out.alloc _) ⟨wr.heap.size, 0, none⟩ 1 1 [.int .i64 x1, .int .i64 x2] rfl rfl H2C.out (by simp [Value.oneCell']) (by unfold maxLen; omega) (by omega) (by have := HM.out.size; simp; omega) ?_; intro v' w1 hown' hgrow hnil; clear hnil; have HO1 := Lib.hid hown'; have HG1 := Lib.hid hgrow; clear hown' hgrow; obtain ⟨ga', gc', rfl⟩ := Rw.own_slice HO1.out)
        go_roundw
        case rel =>
          refine ⟨i + 1, ga', gc', by omega, rfl, by go_num, (HM.out.alloc _).grown HG1.out (fun k hk => .inr (by have := own_ge HO.out k hk; omega)), ?_⟩
          unfold RefAt
          rw [HS.out, show (l.take (i + 1)).length = i + 1 by rw [List.length_take]; omega]
          exact HO1.out
        case measure => simp [intOf]; omega
    · have hge : (l.length : Int) ≤ i := by omega
      have hii : i = l.length := by omega
      have HF : Hid (RefAt wr w.heap.size (.slice ga i gc) l) := Lib.hid (by have h := hrow; rw [hii, List.take_length] at h; rw [hii]; exact h)
      clear hrow hown hm
      go_wp2_with fail
      go_ret
      exact ⟨_, rfl, HM.out, HF.out⟩

set_option maxHeartbeats 2000000 in
theorem same_calls (b1 b2 : Nat) (v1 v2 : Value) (l m : List Sn) (w : World) (h1 : RefAt w b1 v1 l) (h2 : RefAt w b2 v2 m) (hn : l.length ≤ 1000) (hm : m.length ≤ 1000) :
    Calls Try.prog 25 #[v1, v2] w fun e w' => e = .returned (.bool (decide (l = m))) ∧ Mod w w' [] := by
  have H1 := Lib.hid h1
  have H2 := Lib.hid h2
  obtain ⟨a1, c1, rfl⟩ := Rw.own_slice h1
  obtain ⟨a2, c2, rfl⟩ := Rw.own_slice h2
  have hn' : (l.length : Int) ≤ 1000 := by omega
  have hm' : (m.length : Int) ≤ 1000 := by omega
  clear h1 h2
  by_cases hlen : l.length = m.length
  · have hlen' : (l.length : Int) = (m.length : Int) := by omega
    go_enter Try.func25, Try.ntmps25
    go_wp2_with fail
    go_loopw [5] (fun vi wr => ∃ i : Nat, i ≤ l.length ∧ vi = .int .i64 (i : Int) ∧ Mod w wr [] ∧ Hid (∀ j (hj : j < l.length) (hj2 : j < m.length), j < i → l[j] = m[j])) (fun vi _ => l.length + 1 - (intOf vi).toNat)
    case atStart => exact ⟨0, Nat.zero_le _, rfl, Mod.refl _ _, Lib.hid (fun j _ _ h => by omega)⟩
    case round =>
      obtain ⟨i, hi, rfl, hmo, HJ⟩ := hrel
      have HM := Lib.hid hmo
      clear hmo
      by_cases hlt : i < l.length
      · have hlt' : (i : Int) < l.length := by omega
        have hlt2 : i < m.length := by omega
        have hlt2' : (i : Int) < m.length := by omega
        rcases H1.out.shape with ⟨_, h0⟩ | ⟨g, cap, hv, _, _, _, h4⟩
        · rw [h0] at hlt; simp at hlt
        · rcases H2.out.shape with ⟨_, h0⟩ | ⟨g2, cap2, hv2, _, _, _, h5⟩
          · rw [h0] at hlt2; simp at hlt2
          · obtain ⟨d0, d1⟩ := h4 i hlt
            obtain ⟨f0, f1⟩ := h5 i hlt2
            have e0 := keepC HM.out d0
            have e1 := keepC HM.out d1
            have e2 := keepC HM.out f0
            have e3 := keepC HM.out f1
            injection hv with q1 q2 q3
            injection hv2 with q4 q5 q6
            subst q1 q3 q4 q6
            clear d0 d1 f0 f1 h4 h5 q2 q5
            have HX : Hid (l[i]'hlt = m[i]'hlt2 → ∀ j (hj : j < l.length) (hj2 : j < m.length), j < i + 1 → l[j] = m[j]) := Lib.hid (fun h j hj hj2 hji => by
              by_cases e : j = i
              · subst e; exact h
              · exact HJ.out j hj hj2 (by omega))
            have HY : Hid (l[i]'hlt ≠ m[i]'hlt2 → l ≠ m) := Lib.hid (fun h e => h (by simp only [e]))
            clear HJ
            generalize l[i]'hlt = x at *
            generalize m[i]'hlt2 = y at *
            obtain ⟨x1, x2⟩ := x
            obtain ⟨y1, y2⟩ := y
            simp only at e0 e1 e2 e3
            by_cases p1 : x1 = y1
            · by_cases p2 : x2 = y2
              · subst p1 p2
                have HXX := Lib.hid (HX.out rfl)
                clear HX HY
                go_wp2_with fail
                refine Fx.wp_region_f [] (fun _ w' => Mod wr w' []) (by kernel_rfl) (by decide) (Mod.refl _ _).drew ?_
                have hSS : ∀ (m' : Nat) w', Mod wr w' [] → _ := fun m' w' h => (⟨keepC h e0, keepC h e1, keepC h e2, keepC h e3⟩ : _ ∧ _ ∧ _ ∧ _)
                refine Fx.take (i := 0) (v := ?_) _ rfl (by kernel_rfl) (by kernel_rfl) (by rfl) hSS ?_ ?_
                rotate_left
                · (intro w' hSw; (try dsimp only at hSw); go_simp; first | done | with_reducible rfl)
                try simp only [List.getElem_toArray, List.getElem_cons_succ, List.getElem_cons_zero, Act.put, List.setIfInBounds_toArray, List.set_cons_zero, List.set_cons_succ]
                refine Fx.take (i := 1) (v := ?_) _ rfl (by kernel_rfl) (by kernel_rfl) (by rfl) hSS ?_ ?_
                rotate_left
                · (intro w' hSw; (try dsimp only at hSw); go_simp; first | done | with_reducible rfl)
                try simp only [List.getElem_toArray, List.getElem_cons_succ, List.getElem_cons_zero, Act.put, List.setIfInBounds_toArray, List.set_cons_zero, List.set_cons_succ]
                refine Fx.take (i := 2) (v := ?_) _ rfl (by kernel_rfl) (by kernel_rfl) (by rfl) hSS ?_ ?_
                rotate_left
                · (intro w' hSw; (try dsimp only at hSw); go_simp; first | done | with_reducible rfl)
                try simp only [List.getElem_toArray, List.getElem_cons_succ, List.getElem_cons_zero, Act.put, List.setIfInBounds_toArray, List.set_cons_zero, List.set_cons_succ]
                refine Fx.take (i := 3) (v := ?_) _ rfl (by kernel_rfl) (by kernel_rfl) (by rfl) hSS ?_ ?_
                rotate_left
                · (intro w' hSw; (try dsimp only at hSw); go_simp; first | done | with_reducible rfl)
                try simp only [List.getElem_toArray, List.getElem_cons_succ, List.getElem_cons_zero, Act.put, List.setIfInBounds_toArray, List.set_cons_zero, List.set_cons_succ]
                refine Fx.take (i := 4) (v := ?_) _ rfl (by kernel_rfl) (by kernel_rfl) (by rfl) hSS ?_ ?_
                rotate_left
                · (intro w' hSw; (try dsimp only at hSw); go_simp; first | done | with_reducible rfl)
                try simp only [List.getElem_toArray, List.getElem_cons_succ, List.getElem_cons_zero, Act.put, List.setIfInBounds_toArray, List.set_cons_zero, List.set_cons_succ]
                refine Fx.take (i := 5) (v := ?_) _ rfl (by kernel_rfl) (by kernel_rfl) (by rfl) hSS ?_ ?_
                rotate_left
                · (intro w' hSw; (try dsimp only at hSw); go_simp; first | done | with_reducible rfl)
                try simp only [List.getElem_toArray, List.getElem_cons_succ, List.getElem_cons_zero, Act.put, List.setIfInBounds_toArray, List.set_cons_zero, List.set_cons_succ]
                refine Fx.take (i := 6) (v := ?_) _ rfl (by kernel_rfl) (by kernel_rfl) (by rfl) hSS ?_ ?_
                rotate_left
                · (intro w' hSw; (try dsimp only at hSw); go_simp; first | done | with_reducible rfl)
                try simp only [List.getElem_toArray, List.getElem_cons_succ, List.getElem_cons_zero, Act.put, List.setIfInBounds_toArray, List.set_cons_zero, List.set_cons_succ]
                refine Fx.take (i := 7) (v := ?_) _ rfl (by kernel_rfl) (by kernel_rfl) (by rfl) hSS ?_ ?_
                rotate_left
                · (intro w' hSw; (try dsimp only at hSw); go_simp; first | done | with_reducible rfl)
                try simp only [List.getElem_toArray, List.getElem_cons_succ, List.getElem_cons_zero, Act.put, List.setIfInBounds_toArray, List.set_cons_zero, List.set_cons_succ]
                refine Fx.take (i := 8) (v := ?_) _ rfl (by kernel_rfl) (by kernel_rfl) (by rfl) hSS ?_ ?_
                rotate_left
                · (intro w' hSw; (try dsimp only at hSw); go_simp; first | done | with_reducible rfl)
                try simp only [List.getElem_toArray, List.getElem_cons_succ, List.getElem_cons_zero, Act.put, List.setIfInBounds_toArray, List.set_cons_zero, List.set_cons_succ]
                refine Fx.done 0 (by kernel_rfl) (by kernel_rfl) (fun w4 hC => ?_)
                have HM4 := Lib.hid (HM.out.trans0 hC)
                clear hC e0 e1 e2 e3 hSS
                go_wp2_with fail
                go_roundw
                case rel => exact ⟨i + 1, by omega, by go_num, HM4.out, HXX⟩
                case measure => simp [intOf]; omega
              · have HYY := Lib.hid (HY.out (fun e => p2 (Prod.mk.inj e).2))
                clear HX HY
                subst p1
                go_wp2_with fail
                refine Fx.wp_region_f [] (fun _ w' => Mod wr w' []) (by kernel_rfl) (by decide) (Mod.refl _ _).drew ?_
                have hSS : ∀ (m' : Nat) w', Mod wr w' [] → _ := fun m' w' h => (⟨keepC h e0, keepC h e1, keepC h e2, keepC h e3⟩ : _ ∧ _ ∧ _ ∧ _)
                refine Fx.take (i := 0) (v := ?_) _ rfl (by kernel_rfl) (by kernel_rfl) (by rfl) hSS ?_ ?_
                rotate_left
                · (intro w' hSw; (try dsimp only at hSw); go_simp; first | done | with_reducible rfl)
                try simp only [List.getElem_toArray, List.getElem_cons_succ, List.getElem_cons_zero, Act.put, List.setIfInBounds_toArray, List.set_cons_zero, List.set_cons_succ]
                refine Fx.take (i := 1) (v := ?_) _ rfl (by kernel_rfl) (by kernel_rfl) (by rfl) hSS ?_ ?_
                rotate_left
                · (intro w' hSw; (try dsimp only at hSw); go_simp; first | done | with_reducible rfl)
                try simp only [List.getElem_toArray, List.getElem_cons_succ, List.getElem_cons_zero, Act.put, List.setIfInBounds_toArray, List.set_cons_zero, List.set_cons_succ]
                refine Fx.take (i := 2) (v := ?_) _ rfl (by kernel_rfl) (by kernel_rfl) (by rfl) hSS ?_ ?_
                rotate_left
                · (intro w' hSw; (try dsimp only at hSw); go_simp; first | done | with_reducible rfl)
                try simp only [List.getElem_toArray, List.getElem_cons_succ, List.getElem_cons_zero, Act.put, List.setIfInBounds_toArray, List.set_cons_zero, List.set_cons_succ]
                refine Fx.take (i := 3) (v := ?_) _ rfl (by kernel_rfl) (by kernel_rfl) (by rfl) hSS ?_ ?_
                rotate_left
                · (intro w' hSw; (try dsimp only at hSw); go_simp; first | done | with_reducible rfl)
                try simp only [List.getElem_toArray, List.getElem_cons_succ, List.getElem_cons_zero, Act.put, List.setIfInBounds_toArray, List.set_cons_zero, List.set_cons_succ]
                refine Fx.take (i := 4) (v := ?_) _ rfl (by kernel_rfl) (by kernel_rfl) (by rfl) hSS ?_ ?_
                rotate_left
                · (intro w' hSw; (try dsimp only at hSw); go_simp; first | done | with_reducible rfl)
                try simp only [List.getElem_toArray, List.getElem_cons_succ, List.getElem_cons_zero, Act.put, List.setIfInBounds_toArray, List.set_cons_zero, List.set_cons_succ]
                refine Fx.take (i := 5) (v := ?_) _ rfl (by kernel_rfl) (by kernel_rfl) (by rfl) hSS ?_ ?_
                rotate_left
                · (intro w' hSw; (try dsimp only at hSw); go_simp; first | done | with_reducible rfl)
                try simp only [List.getElem_toArray, List.getElem_cons_succ, List.getElem_cons_zero, Act.put, List.setIfInBounds_toArray, List.set_cons_zero, List.set_cons_succ]
                refine Fx.take (i := 6) (v := ?_) _ rfl (by kernel_rfl) (by kernel_rfl) (by rfl) hSS ?_ ?_
                rotate_left
                · (intro w' hSw; (try dsimp only at hSw); go_simp; first | done | with_reducible rfl)
                try simp only [List.getElem_toArray, List.getElem_cons_succ, List.getElem_cons_zero, Act.put, List.setIfInBounds_toArray, List.set_cons_zero, List.set_cons_succ]
                refine Fx.take (i := 7) (v := ?_) _ rfl (by kernel_rfl) (by kernel_rfl) (by rfl) hSS ?_ ?_
                rotate_left
                · (intro w' hSw; (try dsimp only at hSw); go_simp; first | done | with_reducible rfl)
                try simp only [List.getElem_toArray, List.getElem_cons_succ, List.getElem_cons_zero, Act.put, List.setIfInBounds_toArray, List.set_cons_zero, List.set_cons_succ]
                refine Fx.take (i := 8) (v := ?_) _ rfl (by kernel_rfl) (by kernel_rfl) (by rfl) hSS ?_ ?_
                rotate_left
                · (intro w' hSw; (try dsimp only at hSw); go_simp; first | done | with_reducible rfl)
                try simp only [List.getElem_toArray, List.getElem_cons_succ, List.getElem_cons_zero, Act.put, List.setIfInBounds_toArray, List.set_cons_zero, List.set_cons_succ]
                refine Fx.done 0 (by kernel_rfl) (by kernel_rfl) (fun w4 hC => ?_)
                have HM4 := Lib.hid (HM.out.trans0 hC)
                clear hC e0 e1 e2 e3 hSS
                go_wp2_with fail
                go_ret
                exact ⟨ret_bool (by rw [decide_eq_false HYY.out]), HM4.out⟩
            · have HYY := Lib.hid (HY.out (fun e => p1 (Prod.mk.inj e).1))
              clear HX HY
              go_wp2_with fail
              refine Fx.wp_region_f [] (fun _ w' => Mod wr w' []) (by kernel_rfl) (by decide) (Mod.refl _ _).drew ?_
              have hSS : ∀ (m' : Nat) w', Mod wr w' [] → _ := fun m' w' h => (⟨keepC h e0, keepC h e1, keepC h e2, keepC h e3⟩ : _ ∧ _ ∧ _ ∧ _)
              refine Fx.take (i := 0) (v := ?_) _ rfl (by kernel_rfl) (by kernel_rfl) (by rfl) hSS ?_ ?_
              rotate_left
              · (intro w' hSw; (try dsimp only at hSw); go_simp; first | done | with_reducible rfl)
              try simp only [List.getElem_toArray, List.getElem_cons_succ, List.getElem_cons_zero, Act.put, List.setIfInBounds_toArray, List.set_cons_zero, List.set_cons_succ]
              refine Fx.take (i := 1) (v := ?_) _ rfl (by kernel_rfl) (by kernel_rfl) (by rfl) hSS ?_ ?_
              rotate_left
              · (intro w' hSw; (try dsimp only at hSw); go_simp; first | done | with_reducible rfl)
              try simp only [List.getElem_toArray, List.getElem_cons_succ, List.getElem_cons_zero, Act.put, List.setIfInBounds_toArray, List.set_cons_zero, List.set_cons_succ]
              refine Fx.take (i := 2) (v := ?_) _ rfl (by kernel_rfl) (by kernel_rfl) (by rfl) hSS ?_ ?_
              rotate_left
              · (intro w' hSw; (try dsimp only at hSw); go_simp; first | done | with_reducible rfl)
              try simp only [List.getElem_toArray, List.getElem_cons_succ, List.getElem_cons_zero, Act.put, List.setIfInBounds_toArray, List.set_cons_zero, List.set_cons_succ]
              refine Fx.take (i := 3) (v := ?_) _ rfl (by kernel_rfl) (by kernel_rfl) (by rfl) hSS ?_ ?_
              rotate_left
              · (intro w' hSw; (try dsimp only at hSw); go_simp; first | done | with_reducible rfl)
              try simp only [List.getElem_toArray, List.getElem_cons_succ, List.getElem_cons_zero, Act.put, List.setIfInBounds_toArray, List.set_cons_zero, List.set_cons_succ]
              refine Fx.take (i := 4) (v := ?_) _ rfl (by kernel_rfl) (by kernel_rfl) (by rfl) hSS ?_ ?_
              rotate_left
              · (intro w' hSw; (try dsimp only at hSw); go_simp; first | done | with_reducible rfl)
              try simp only [List.getElem_toArray, List.getElem_cons_succ, List.getElem_cons_zero, Act.put, List.setIfInBounds_toArray, List.set_cons_zero, List.set_cons_succ]
              refine Fx.take (i := 5) (v := ?_) _ rfl (by kernel_rfl) (by kernel_rfl) (by rfl) hSS ?_ ?_
              rotate_left
              · (intro w' hSw; (try dsimp only at hSw); go_simp; first | done | with_reducible rfl)
              try simp only [List.getElem_toArray, List.getElem_cons_succ, List.getElem_cons_zero, Act.put, List.setIfInBounds_toArray, List.set_cons_zero, List.set_cons_succ]
              refine Fx.take (i := 6) (v := ?_) _ rfl (by kernel_rfl) (by kernel_rfl) (by rfl) hSS ?_ ?_
              rotate_left
              · (intro w' hSw; (try dsimp only at hSw); go_simp; first | done | with_reducible rfl)
              try simp only [List.getElem_toArray, List.getElem_cons_succ, List.getElem_cons_zero, Act.put, List.setIfInBounds_toArray, List.set_cons_zero, List.set_cons_succ]
              refine Fx.take (i := 7) (v := ?_) _ rfl (by kernel_rfl) (by kernel_rfl) (by rfl) hSS ?_ ?_
              rotate_left
              · (intro w' hSw; (try dsimp only at hSw); go_simp; first | done | with_reducible rfl)
              try simp only [List.getElem_toArray, List.getElem_cons_succ, List.getElem_cons_zero, Act.put, List.setIfInBounds_toArray, List.set_cons_zero, List.set_cons_succ]
              refine Fx.take (i := 8) (v := ?_) _ rfl (by kernel_rfl) (by kernel_rfl) (by rfl) hSS ?_ ?_
              rotate_left
              · (intro w' hSw; (try dsimp only at hSw); go_simp; first | done | with_reducible rfl)
              try simp only [List.getElem_toArray, List.getElem_cons_succ, List.getElem_cons_zero, Act.put, List.setIfInBounds_toArray, List.set_cons_zero, List.set_cons_succ]
              refine Fx.done 0 (by kernel_rfl) (by kernel_rfl) (fun w4 hC => ?_)
              have HM4 := Lib.hid (HM.out.trans0 hC)
              clear hC e0 e1 e2 e3 hSS
              go_wp2_with fail
              go_ret
              exact ⟨ret_bool (by rw [decide_eq_false HYY.out]), HM4.out⟩
      · have hge : (l.length : Int) ≤ i := by omega
        have hge2 : (m.length : Int) ≤ i := by omega
        have HE : Hid (l = m) := Lib.hid (List.ext_getElem hlen (fun j hj hj2 => HJ.out j hj hj2 (by omega)))
        go_wp2_with fail
        go_ret
        exact ⟨ret_bool (by rw [decide_eq_true HE.out]), HM.out⟩
  · have hlen' : ¬ ((l.length : Int) = (m.length : Int)) := by omega
    have HE : Hid (l ≠ m) := Lib.hid (fun e => hlen (by rw [e]))
    go_enter Try.func25, Try.ntmps25
    go_wp2_with fail
    go_ret
    exact ⟨ret_bool (by rw [decide_eq_false HE.out]), Mod.refl _ _⟩
end Go.Proofs.Ytcbafomhifdgpaa.Ss
