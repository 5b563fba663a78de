/- Tables of sessions: the reference's parts. -/
import Derived.Test.YtcbafomhifdgpaaSsPa
import Derived.Laws.StructEq
import Derived.Test.YtcbafomhifdgpaaRef3
import Derived.Test.YtcbafomhifdgpaaFx
section
/- The law's refs, the reference's Same. -/
namespace Go.Proofs.Ytcbafomhifdgpaa.Ss
open Go.RowKit Mem Si Bits
set_option linter.unusedSimpArgs false
set_option linter.unusedVariables false
set_option maxRecDepth 100000

/-- A row of the reference's sessions. -/
def RefAt (w : World) (base : Nat) (v : Value) (l : List Sn) : Prop := w.ownsRow base 108 2 v l.length (rowsC l)
theorem RefAt.mod {w w' : World} {base : Nat} {v : Value} {l : List Sn} {R : List Nat} (h : RefAt w base v l) (m : Mod w w' R) (hR : ∀ k, v.ownBlock = some k → k ∉ R) : RefAt w' base v l := own_mod h m hR
theorem RefAt.shape {w : World} {base : Nat} {v : Value} {l : List Sn} (h : RefAt w base v l) :
    (v = .slice none 0 0 ∧ l = []) ∨ ∃ g cap, v = .slice (some ⟨g, 0, none⟩) l.length cap ∧ base ≤ g ∧ l.length ≤ cap ∧ cap ≤ maxLen ∧
      ∀ i (hi : i < l.length), w.cell? ⟨g, i * 2, none⟩ = some (.int .i64 l[i].1) ∧ w.cell? ⟨g, i * 2 + 1, none⟩ = some (.int .i64 l[i].2) := by
  rcases Rw.own_cellN h with ⟨h1, h2, _⟩ | ⟨g, cap, h1, h2, h3, h4, h5, h6⟩
  · exact .inl ⟨h1, List.eq_nil_of_length_eq_zero h2⟩
  · refine .inr ⟨g, cap, h1, h2, h3, h4, fun i hi => ?_⟩
    obtain ⟨e0, e1⟩ := rowsC_get l i hi
    obtain ⟨q0, q0'⟩ := List.getElem?_eq_some_iff.1 e0
    obtain ⟨q1, q1'⟩ := List.getElem?_eq_some_iff.1 e1
    exact ⟨by rw [h6 _ q0, q0'], by rw [h6 _ q1, q1']⟩
theorem info_ref : (Try.prog.info? 108).map (fun i => (i.zero, i.size, i.bytes)) = some (some (.agg #[.int .i64 0, .int .i64 0]), 2, 16) := by kernel_rfl

set_option maxHeartbeats 2000000 in
theorem refs_calls (base : Nat) (v : Value) (l : List Sn) (w : World) (h : RowsAt w base v l) (hn : l.length ≤ 1000) :
    Calls Try.prog 26 #[v] w fun e w' => ∃ v', e = .returned v' ∧ Mod w w' [] ∧ RefAt w' w.heap.size v' l := by
  obtain ⟨i0, hi0, hz0, hz1, hz2⟩ := info_parts info_ref
  have HR := Lib.hid h
  obtain ⟨a, c, rfl⟩ := Rw.own_slice h
  clear h
  have hn' : (l.length : Int) ≤ 1000 := by omega
  go_enter Try.func26, Try.ntmps26
  go_wp2_with fail
  go_loopw [3, 4] (fun vl vi wr => ∃ (i : Nat) (ga : Option Addr) (gc : Nat), i ≤ l.length ∧ vl = .slice ga i gc ∧ vi = .int .i64 (i : Int) ∧ Mod w wr [] ∧ RefAt wr w.heap.size (.slice ga i gc) (l.take i)) (fun _ vi _ => l.length + 1 - (intOf vi).toNat)
  case atStart => exact ⟨0, none, 0, Nat.zero_le _, rfl, rfl, Mod.refl _ _, World.ownsRow_nil _ _ _ _⟩
  case round =>
    obtain ⟨i, ga, gc, hi, rfl, rfl, hm, hrow⟩ := hrel
    have HM := Lib.hid hm
    have htl : (l.take i).length = i := by rw [List.length_take]; omega
    have hown : wr.ownsRow w.heap.size 108 2 (.slice ga i gc) i (rowsC (l.take i)) := by have h := hrow; unfold RefAt at h; rw [htl] at h; exact h
    by_cases hlt : i < l.length
    · have hlt' : (i : Int) < l.length := by omega
      have HS := Lib.hid (show rowsC (l.take (i + 1)) = rowsC (l.take i) ++ rowC (l[i]'hlt) by rw [List.take_succ_eq_append_getElem hlt, rowsC_append]; simp [rowsC])
      rcases HR.out.shape with ⟨_, h0⟩ | ⟨g, cap, hv, h1, h2, h3, h4⟩
      · rw [h0] at hlt; simp at hlt
      · obtain ⟨d0, d1⟩ := h4 i hlt
        have c0 := keepC HM.out d0
        have c1 := keepC HM.out d1
        injection hv with e1 e2 e3
        subst e1 e3
        clear d0 d1 h4 e2 hm
        generalize l[i]'hlt = x at *
        obtain ⟨x1, x2⟩ := x
        simp only at c0 c1
        have HO := Lib.hid hown
        have H2C := Lib.hid (two_cells (Blk.new wr #[.int .i64 x1, .int .i64 x2] 108))
        clear hown hrow
        generalize hys : rowsC (l.take i) = ys at *
        go_wp2_with (at_builtin; refine wpList_append_own _ rfl _ _ 55 rfl w.heap.size 108 i0 _ 2 16 Try.underlying55 hi0 hz0 hz1 hz2 rfl (by decide) _ _ _ rfl (HO.out.alloc _) ⟨wr.heap.size, 0, none⟩ 1 1 [.int .i64 x1, .int .i64 x2] rfl rfl H2C.out (by simp [Value.oneCell']) (by unfold maxLen; omega) (by omega) (by have := HM.out.size; simp; omega) ?_; intro v' w1 hown' hgrow hnil; clear hnil; have HO1 := Lib.hid hown'; have HG1 := Lib.hid hgrow; clear hown' hgrow; obtain ⟨ga', gc', rfl⟩ := Rw.own_slice HO1.out)
        go_roundw
        case rel =>
          refine ⟨i + 1, ga', gc', by omega, rfl, by go_num, (HM.out.alloc _).grown HG1.out (fun k hk => .inr (by have := own_ge HO.out k hk; omega)), ?_⟩
          unfold RefAt
          rw [HS.out, show (l.take (i + 1)).length = i + 1 by rw [List.length_take]; omega]
          exact HO1.out
        case measure => simp [intOf]; omega
    · have hge : (l.length : Int) ≤ i := by omega
      have hii : i = l.length := by omega
      have HF : Hid (RefAt wr w.heap.size (.slice ga i gc) l) := Lib.hid (by have h := hrow; rw [hii, List.take_length] at h; rw [hii]; exact h)
      clear hrow hown hm
      go_wp2_with fail
      go_ret
      exact ⟨_, rfl, HM.out, HF.out⟩

set_option maxHeartbeats 2000000 in
theorem same_calls (b1 b2 : Nat) (v1 v2 : Value) (l m : List Sn) (w : World) (h1 : RefAt w b1 v1 l) (h2 : RefAt w b2 v2 m) (hn : l.length ≤ 1000) (hm : m.length ≤ 1000) :
    Calls Try.prog 25 #[v1, v2] w fun e w' => e = .returned (.bool (decide (l = m))) ∧ Mod w w' [] := by
  have H1 := Lib.hid h1
  have H2 := Lib.hid h2
  obtain ⟨a1, c1, rfl⟩ := Rw.own_slice h1
  obtain ⟨a2, c2, rfl⟩ := Rw.own_slice h2
  have hn' : (l.length : Int) ≤ 1000 := by omega
  have hm' : (m.length : Int) ≤ 1000 := by omega
  clear h1 h2
  by_cases hlen : l.length = m.length
  · have hlen' : (l.length : Int) = (m.length : Int) := by omega
    go_enter Try.func25, Try.ntmps25
    go_wp2_with fail
    go_loopw [5] (fun vi wr => ∃ i : Nat, i ≤ l.length ∧ vi = .int .i64 (i : Int) ∧ Mod w wr [] ∧ Hid (∀ j (hj : j < l.length) (hj2 : j < m.length), j < i → l[j] = m[j])) (fun vi _ => l.length + 1 - (intOf vi).toNat)
    case atStart => exact ⟨0, Nat.zero_le _, rfl, Mod.refl _ _, Lib.hid (fun j _ _ h => by omega)⟩
    case round =>
      obtain ⟨i, hi, rfl, hmo, HJ⟩ := hrel
      have HM := Lib.hid hmo
      clear hmo
      by_cases hlt : i < l.length
      · have hlt' : (i : Int) < l.length := by omega
        have hlt2 : i < m.length := by omega
        have hlt2' : (i : Int) < m.length := by omega
        rcases H1.out.shape with ⟨_, h0⟩ | ⟨g, cap, hv, _, _, _, h4⟩
        · rw [h0] at hlt; simp at hlt
        · rcases H2.out.shape with ⟨_, h0⟩ | ⟨g2, cap2, hv2, _, _, _, h5⟩
          · rw [h0] at hlt2; simp at hlt2
          · obtain ⟨d0, d1⟩ := h4 i hlt
            obtain ⟨f0, f1⟩ := h5 i hlt2
            have e0 := keepC HM.out d0
            have e1 := keepC HM.out d1
            have e2 := keepC HM.out f0
            have e3 := keepC HM.out f1
            injection hv with q1 q2 q3
            injection hv2 with q4 q5 q6
            subst q1 q3 q4 q6
            clear d0 d1 f0 f1 h4 h5 q2 q5
            have HX : Hid (l[i]'hlt = m[i]'hlt2 → ∀ j (hj : j < l.length) (hj2 : j < m.length), j < i + 1 → l[j] = m[j]) := Lib.hid (fun h j hj hj2 hji => by
              by_cases e : j = i
              · subst e; exact h
              · exact HJ.out j hj hj2 (by omega))
            have HY : Hid (l[i]'hlt ≠ m[i]'hlt2 → l ≠ m) := Lib.hid (fun h e => h (by simp only [e]))
            clear HJ
            generalize l[i]'hlt = x at *
            generalize m[i]'hlt2 = y at *
            obtain ⟨x1, x2⟩ := x
            obtain ⟨y1, y2⟩ := y
            simp only at e0 e1 e2 e3
            by_cases p1 : x1 = y1
            · by_cases p2 : x2 = y2
              · subst p1 p2
                have HXX := Lib.hid (HX.out rfl)
                clear HX HY
                go_wp2_with fail
                refine Fx.wp_region_f [] (fun _ w' => Mod wr w' []) (by kernel_rfl) (by decide) (Mod.refl _ _).drew ?_
                have hSS : ∀ (m' : Nat) w', Mod wr w' [] → _ := fun m' w' h => (⟨keepC h e0, keepC h e1, keepC h e2, keepC h e3⟩ : _ ∧ _ ∧ _ ∧ _)
                refine Fx.take (i := 0) (v := ?_) _ rfl (by kernel_rfl) (by kernel_rfl) (by rfl) hSS ?_ ?_
                rotate_left
                · (intro w' hSw; (try dsimp only at hSw); go_simp; first | done | with_reducible rfl)
                try simp only [List.getElem_toArray, List.getElem_cons_succ, List.getElem_cons_zero, Act.put, List.setIfInBounds_toArray, List.set_cons_zero, List.set_cons_succ]
                refine Fx.take (i := 1) (v := ?_) _ rfl (by kernel_rfl) (by kernel_rfl) (by rfl) hSS ?_ ?_
                rotate_left
                · (intro w' hSw; (try dsimp only at hSw); go_simp; first | done | with_reducible rfl)
                try simp only [List.getElem_toArray, List.getElem_cons_succ, List.getElem_cons_zero, Act.put, List.setIfInBounds_toArray, List.set_cons_zero, List.set_cons_succ]
                refine Fx.take (i := 2) (v := ?_) _ rfl (by kernel_rfl) (by kernel_rfl) (by rfl) hSS ?_ ?_
                rotate_left
                · (intro w' hSw; (try dsimp only at hSw); go_simp; first | done | with_reducible rfl)
                try simp only [List.getElem_toArray, List.getElem_cons_succ, List.getElem_cons_zero, Act.put, List.setIfInBounds_toArray, List.set_cons_zero, List.set_cons_succ]
                refine Fx.take (i := 3) (v := ?_) _ rfl (by kernel_rfl) (by kernel_rfl) (by rfl) hSS ?_ ?_
                rotate_left
                · (intro w' hSw; (try dsimp only at hSw); go_simp; first | done | with_reducible rfl)
                try simp only [List.getElem_toArray, List.getElem_cons_succ, List.getElem_cons_zero, Act.put, List.setIfInBounds_toArray, List.set_cons_zero, List.set_cons_succ]
                refine Fx.take (i := 4) (v := ?_) _ rfl (by kernel_rfl) (by kernel_rfl) (by rfl) hSS ?_ ?_
                rotate_left
                · (intro w' hSw; (try dsimp only at hSw); go_simp; first | done | with_reducible rfl)
                try simp only [List.getElem_toArray, List.getElem_cons_succ, List.getElem_cons_zero, Act.put, List.setIfInBounds_toArray, List.set_cons_zero, List.set_cons_succ]
                refine Fx.take (i := 5) (v := ?_) _ rfl (by kernel_rfl) (by kernel_rfl) (by rfl) hSS ?_ ?_
                rotate_left
                · (intro w' hSw; (try dsimp only at hSw); go_simp; first | done | with_reducible rfl)
                try simp only [List.getElem_toArray, List.getElem_cons_succ, List.getElem_cons_zero, Act.put, List.setIfInBounds_toArray, List.set_cons_zero, List.set_cons_succ]
                refine Fx.take (i := 6) (v := ?_) _ rfl (by kernel_rfl) (by kernel_rfl) (by rfl) hSS ?_ ?_
                rotate_left
                · (intro w' hSw; (try dsimp only at hSw); go_simp; first | done | with_reducible rfl)
                try simp only [List.getElem_toArray, List.getElem_cons_succ, List.getElem_cons_zero, Act.put, List.setIfInBounds_toArray, List.set_cons_zero, List.set_cons_succ]
                refine Fx.take (i := 7) (v := ?_) _ rfl (by kernel_rfl) (by kernel_rfl) (by rfl) hSS ?_ ?_
                rotate_left
                · (intro w' hSw; (try dsimp only at hSw); go_simp; first | done | with_reducible rfl)
                try simp only [List.getElem_toArray, List.getElem_cons_succ, List.getElem_cons_zero, Act.put, List.setIfInBounds_toArray, List.set_cons_zero, List.set_cons_succ]
                refine Fx.take (i := 8) (v := ?_) _ rfl (by kernel_rfl) (by kernel_rfl) (by rfl) hSS ?_ ?_
                rotate_left
                · (intro w' hSw; (try dsimp only at hSw); go_simp; first | done | with_reducible rfl)
                try simp only [List.getElem_toArray, List.getElem_cons_succ, List.getElem_cons_zero, Act.put, List.setIfInBounds_toArray, List.set_cons_zero, List.set_cons_succ]
                refine Fx.done 0 (by kernel_rfl) (by kernel_rfl) (fun w4 hC => ?_)
                have HM4 := Lib.hid (HM.out.trans0 hC)
                clear hC e0 e1 e2 e3 hSS
                go_wp2_with fail
                go_roundw
                case rel => exact ⟨i + 1, by omega, by go_num, HM4.out, HXX⟩
                case measure => simp [intOf]; omega
              · have HYY := Lib.hid (HY.out (fun e => p2 (Prod.mk.inj e).2))
                clear HX HY
                subst p1
                go_wp2_with fail
                refine Fx.wp_region_f [] (fun _ w' => Mod wr w' []) (by kernel_rfl) (by decide) (Mod.refl _ _).drew ?_
                have hSS : ∀ (m' : Nat) w', Mod wr w' [] → _ := fun m' w' h => (⟨keepC h e0, keepC h e1, keepC h e2, keepC h e3⟩ : _ ∧ _ ∧ _ ∧ _)
                refine Fx.take (i := 0) (v := ?_) _ rfl (by kernel_rfl) (by kernel_rfl) (by rfl) hSS ?_ ?_
                rotate_left
                · (intro w' hSw; (try dsimp only at hSw); go_simp; first | done | with_reducible rfl)
                try simp only [List.getElem_toArray, List.getElem_cons_succ, List.getElem_cons_zero, Act.put, List.setIfInBounds_toArray, List.set_cons_zero, List.set_cons_succ]
                refine Fx.take (i := 1) (v := ?_) _ rfl (by kernel_rfl) (by kernel_rfl) (by rfl) hSS ?_ ?_
                rotate_left
                · (intro w' hSw; (try dsimp only at hSw); go_simp; first | done | with_reducible rfl)
                try simp only [List.getElem_toArray, List.getElem_cons_succ, List.getElem_cons_zero, Act.put, List.setIfInBounds_toArray, List.set_cons_zero, List.set_cons_succ]
                refine Fx.take (i := 2) (v := ?_) _ rfl (by kernel_rfl) (by kernel_rfl) (by rfl) hSS ?_ ?_
                rotate_left
                · (intro w' hSw; (try dsimp only at hSw); go_simp; first | done | with_reducible rfl)
                try simp only [List.getElem_toArray, List.getElem_cons_succ, List.getElem_cons_zero, Act.put, List.setIfInBounds_toArray, List.set_cons_zero, List.set_cons_succ]
                refine Fx.take (i := 3) (v := ?_) _ rfl (by kernel_rfl) (by kernel_rfl) (by rfl) hSS ?_ ?_
                rotate_left
                · (intro w' hSw; (try dsimp only at hSw); go_simp; first | done | with_reducible rfl)
                try simp only [List.getElem_toArray, List.getElem_cons_succ, List.getElem_cons_zero, Act.put, List.setIfInBounds_toArray, List.set_cons_zero, List.set_cons_succ]
                refine Fx.take (i := 4) (v := ?_) _ rfl (by kernel_rfl) (by kernel_rfl) (by rfl) hSS ?_ ?_
                rotate_left
                · (intro w' hSw; (try dsimp only at hSw); go_simp; first | done | with_reducible rfl)
                try simp only [List.getElem_toArray, List.getElem_cons_succ, List.getElem_cons_zero, Act.put, List.setIfInBounds_toArray, List.set_cons_zero, List.set_cons_succ]
                refine Fx.take (i := 5) (v := ?_) _ rfl (by kernel_rfl) (by kernel_rfl) (by rfl) hSS ?_ ?_
                rotate_left
                · (intro w' hSw; (try dsimp only at hSw); go_simp; first | done | with_reducible rfl)
                try simp only [List.getElem_toArray, List.getElem_cons_succ, List.getElem_cons_zero, Act.put, List.setIfInBounds_toArray, List.set_cons_zero, List.set_cons_succ]
                refine Fx.take (i := 6) (v := ?_) _ rfl (by kernel_rfl) (by kernel_rfl) (by rfl) hSS ?_ ?_
                rotate_left
                · (intro w' hSw; (try dsimp only at hSw); go_simp; first | done | with_reducible rfl)
                try simp only [List.getElem_toArray, List.getElem_cons_succ, List.getElem_cons_zero, Act.put, List.setIfInBounds_toArray, List.set_cons_zero, List.set_cons_succ]
                refine Fx.take (i := 7) (v := ?_) _ rfl (by kernel_rfl) (by kernel_rfl) (by rfl) hSS ?_ ?_
                rotate_left
                · (intro w' hSw; (try dsimp only at hSw); go_simp; first | done | with_reducible rfl)
                try simp only [List.getElem_toArray, List.getElem_cons_succ, List.getElem_cons_zero, Act.put, List.setIfInBounds_toArray, List.set_cons_zero, List.set_cons_succ]
                refine Fx.take (i := 8) (v := ?_) _ rfl (by kernel_rfl) (by kernel_rfl) (by rfl) hSS ?_ ?_
                rotate_left
                · (intro w' hSw; (try dsimp only at hSw); go_simp; first | done | with_reducible rfl)
                try simp only [List.getElem_toArray, List.getElem_cons_succ, List.getElem_cons_zero, Act.put, List.setIfInBounds_toArray, List.set_cons_zero, List.set_cons_succ]
                refine Fx.done 0 (by kernel_rfl) (by kernel_rfl) (fun w4 hC => ?_)
                have HM4 := Lib.hid (HM.out.trans0 hC)
                clear hC e0 e1 e2 e3 hSS
                go_wp2_with fail
                go_ret
                exact ⟨ret_bool (by rw [decide_eq_false HYY.out]), HM4.out⟩
            · have HYY := Lib.hid (HY.out (fun e => p1 (Prod.mk.inj e).1))
              clear HX HY
              go_wp2_with fail
              refine Fx.wp_region_f [] (fun _ w' => Mod wr w' []) (by kernel_rfl) (by decide) (Mod.refl _ _).drew ?_
              have hSS : ∀ (m' : Nat) w', Mod wr w' [] → _ := fun m' w' h => (⟨keepC h e0, keepC h e1, keepC h e2, keepC h e3⟩ : _ ∧ _ ∧ _ ∧ _)
              refine Fx.take (i := 0) (v := ?_) _ rfl (by kernel_rfl) (by kernel_rfl) (by rfl) hSS ?_ ?_
              rotate_left
              · (intro w' hSw; (try dsimp only at hSw); go_simp; first | done | with_reducible rfl)
              try simp only [List.getElem_toArray, List.getElem_cons_succ, List.getElem_cons_zero, Act.put, List.setIfInBounds_toArray, List.set_cons_zero, List.set_cons_succ]
              refine Fx.take (i := 1) (v := ?_) _ rfl (by kernel_rfl) (by kernel_rfl) (by rfl) hSS ?_ ?_
              rotate_left
              · (intro w' hSw; (try dsimp only at hSw); go_simp; first | done | with_reducible rfl)
              try simp only [List.getElem_toArray, List.getElem_cons_succ, List.getElem_cons_zero, Act.put, List.setIfInBounds_toArray, List.set_cons_zero, List.set_cons_succ]
              refine Fx.take (i := 2) (v := ?_) _ rfl (by kernel_rfl) (by kernel_rfl) (by rfl) hSS ?_ ?_
              rotate_left
              · (intro w' hSw; (try dsimp only at hSw); go_simp; first | done | with_reducible rfl)
              try simp only [List.getElem_toArray, List.getElem_cons_succ, List.getElem_cons_zero, Act.put, List.setIfInBounds_toArray, List.set_cons_zero, List.set_cons_succ]
              refine Fx.take (i := 3) (v := ?_) _ rfl (by kernel_rfl) (by kernel_rfl) (by rfl) hSS ?_ ?_
              rotate_left
              · (intro w' hSw; (try dsimp only at hSw); go_simp; first | done | with_reducible rfl)
              try simp only [List.getElem_toArray, List.getElem_cons_succ, List.getElem_cons_zero, Act.put, List.setIfInBounds_toArray, List.set_cons_zero, List.set_cons_succ]
              refine Fx.take (i := 4) (v := ?_) _ rfl (by kernel_rfl) (by kernel_rfl) (by rfl) hSS ?_ ?_
              rotate_left
              · (intro w' hSw; (try dsimp only at hSw); go_simp; first | done | with_reducible rfl)
              try simp only [List.getElem_toArray, List.getElem_cons_succ, List.getElem_cons_zero, Act.put, List.setIfInBounds_toArray, List.set_cons_zero, List.set_cons_succ]
              refine Fx.take (i := 5) (v := ?_) _ rfl (by kernel_rfl) (by kernel_rfl) (by rfl) hSS ?_ ?_
              rotate_left
              · (intro w' hSw; (try dsimp only at hSw); go_simp; first | done | with_reducible rfl)
              try simp only [List.getElem_toArray, List.getElem_cons_succ, List.getElem_cons_zero, Act.put, List.setIfInBounds_toArray, List.set_cons_zero, List.set_cons_succ]
              refine Fx.take (i := 6) (v := ?_) _ rfl (by kernel_rfl) (by kernel_rfl) (by rfl) hSS ?_ ?_
              rotate_left
              · (intro w' hSw; (try dsimp only at hSw); go_simp; first | done | with_reducible rfl)
              try simp only [List.getElem_toArray, List.getElem_cons_succ, List.getElem_cons_zero, Act.put, List.setIfInBounds_toArray, List.set_cons_zero, List.set_cons_succ]
              refine Fx.take (i := 7) (v := ?_) _ rfl (by kernel_rfl) (by kernel_rfl) (by rfl) hSS ?_ ?_
              rotate_left
              · (intro w' hSw; (try dsimp only at hSw); go_simp; first | done | with_reducible rfl)
              try simp only [List.getElem_toArray, List.getElem_cons_succ, List.getElem_cons_zero, Act.put, List.setIfInBounds_toArray, List.set_cons_zero, List.set_cons_succ]
              refine Fx.take (i := 8) (v := ?_) _ rfl (by kernel_rfl) (by kernel_rfl) (by rfl) hSS ?_ ?_
              rotate_left
              · (intro w' hSw; (try dsimp only at hSw); go_simp; first | done | with_reducible rfl)
              try simp only [List.getElem_toArray, List.getElem_cons_succ, List.getElem_cons_zero, Act.put, List.setIfInBounds_toArray, List.set_cons_zero, List.set_cons_succ]
              refine Fx.done 0 (by kernel_rfl) (by kernel_rfl) (fun w4 hC => ?_)
              have HM4 := Lib.hid (HM.out.trans0 hC)
              clear hC e0 e1 e2 e3 hSS
              go_wp2_with fail
              go_ret
              exact ⟨ret_bool (by rw [decide_eq_false HYY.out]), HM4.out⟩
      · have hge : (l.length : Int) ≤ i := by omega
        have hge2 : (m.length : Int) ≤ i := by omega
        have HE : Hid (l = m) := Lib.hid (List.ext_getElem hlen (fun j hj hj2 => HJ.out j hj hj2 (by omega)))
        go_wp2_with fail
        go_ret
        exact ⟨ret_bool (by rw [decide_eq_true HE.out]), HM.out⟩
  · have hlen' : ¬ ((l.length : Int) = (m.length : Int)) := by omega
    have HE : Hid (l ≠ m) := Lib.hid (fun e => hlen (by rw [e]))
    go_enter Try.func25, Try.ntmps25
    go_wp2_with fail
    go_ret
    exact ⟨ret_bool (by rw [decide_eq_false HE.out]), Mod.refl _ _⟩
end Go.Proofs.Ytcbafomhifdgpaa.Ss
end

section
/- Tables of sessions: Close. -/
namespace Go.Proofs.Ytcbafomhifdgpaa.Ss
open Go.RowKit Mem Si Bits
set_option linter.unusedSimpArgs false
set_option linter.unusedVariables false
set_option maxRecDepth 100000

def delL (l : List Sn) (id : Int) : List Sn := l.take (pos l id) ++ l.drop (pos l id + 1)
def closeL (l : List Sn) (id : Int) : List Sn × Int := if has l id = false then (l, 4) else (delL l id, 0)
theorem rowsC_del (l : List Sn) (i : Nat) (hi : i < l.length) : (rowsC l).take (i * 2) ++ (rowsC l).drop ((i + 1) * 2) = rowsC (l.take i ++ l.drop (i + 1)) := by
  rw [rowsC_take l i (by omega), rowsC_drop l (i + 1) (by omega), rowsC_append]

set_option maxHeartbeats 1000000 in
theorem close_calls (t : Nat) (v : Value) (l : List Sn) (id : Int) (w : World) (h : TabAt w t v l) (hn : l.length ≤ 1000) (hu : Up l) :
    Calls Try.prog 28 #[.pointer (some ⟨t, 0, none⟩), .int .i64 id] w fun e w' => e = .returned (.int .i64 (closeL l id).2) ∧ TabP t v (closeL l id).1 w w' := by
  have F := Lib.hid (find_calls t v l id w h hn hu)
  have HT := Lib.hid h
  obtain ⟨a, c, hv⟩ := Rw.own_slice h.2
  unfold closeL
  cases hh : has l id with
  | false =>
    rw [if_pos rfl]
    rw [hh] at F
    clear h hv
    go_enter Try.func28, Try.ntmps28
    go_wp2_with fail
    (with_reducible refine (F.out).mono ?_)
    rintro e w1 ⟨rfl, hm1⟩
    have HM1 := Lib.hid hm1
    clear hm1
    go_wp2_with fail
    go_ret
    exact ⟨rfl, TabP.same HT.out HM1.out⟩
  | true =>
    rw [if_neg (by simp)]
    rw [hh] at F
    obtain ⟨hp, _⟩ := has_pos hu hh
    have HRD := Lib.hid (rowsC_del l (pos l id) hp)
    have HL : Hid (delL l id = l.take (pos l id) ++ l.drop (pos l id + 1)) := Lib.hid rfl
    have hdl : (delL l id).length = l.length - 1 := by unfold delL; simp; omega
    have DC := Lib.hid (fun W (hr : RowsAt W (t + 1) v l) => del_calls (t + 1) l.length (pos l id) v (rowsC l) W hr hp hn (rowsC_one l))
    have hi' : (pos l id : Int) < l.length := by omega
    have hw1 : IntKind.i64.wrap ((pos l id : Int) + 1) = (pos l id : Int) + 1 := by rw [IntKind.wrap_i64]; omega
    generalize delL l id = l' at *
    generalize pos l id = p at *
    subst hv
    clear h
    go_enter Try.func28, Try.ntmps28
    go_wp2_with fail
    (with_reducible refine (F.out).mono ?_)
    rintro e w1 ⟨rfl, hm1⟩
    have HM1 := Lib.hid hm1
    have HT1 := Lib.hid (HT.out.mod hm1 (by simp) (by simp))
    have c0 := HT1.out.1.cell 0
    have DC1 := Lib.hid (DC.out _ HT1.out.2)
    clear hm1
    go_wp2_with fail
    (with_reducible refine (DC1.out).mono ?_)
    rintro e w2 ⟨v', rfl, hown, hgrow, hwh⟩
    have HO2 := Lib.hid hown
    have HG2 := Lib.hid hgrow
    have HW := Lib.hid hwh
    have HB2 := Lib.hid (Rw.blk_grown HT1.out.1 hgrow (fun e => by have := (HT1.out.own _ e.symm).1; omega))
    have d0 := HB2.out.cell 0
    have f0 := HB2.out.free 0
    clear hown hgrow hwh c0
    obtain ⟨a', c', hv'⟩ := Rw.own_slice HO2.out
    subst hv'
    go_wp2_with fail
    go_ret
    refine ⟨rfl, .slice a' (l.length - 1) c', ⟨?_, ?_⟩, ?_, fun k hk => .inl (HW.out ▸ hk)⟩
    · have := HB2.out.set 0 (.slice a' (l.length - 1) c')
      simpa using this
    · have h := HO2.out
      rw [HRD.out, ← HL.out] at h
      unfold RowsAt
      rw [hdl]
      exact own_mod h ((Mod.refl w2 [t]).setCell (by simp) _) (fun k hk => by have := own_ge HO2.out k hk; simp; omega)
    · exact (HM1.out.weak0.grown HG2.out (fun k hk => .inl (by rw [hk]; simp))).setCell (by simp) _
end Go.Proofs.Ytcbafomhifdgpaa.Ss
end

section
/- Tables of sessions: plain facts of a full table. -/
namespace Go.Proofs.Ytcbafomhifdgpaa.Ss
open Go.RowKit Mem Si Bits
set_option linter.unusedSimpArgs false
set_option linter.unusedVariables false

theorem has_iff {l : List Sn} {x : Int} : has l x = true ↔ ∃ s ∈ l, s.1 = x := by
  unfold has
  rw [List.any_eq_true]
  simp
theorem has_congr {l m : List Sn} {x : Int} (h : (∃ s ∈ l, s.1 = x) ↔ ∃ s ∈ m, s.1 = x) : has l x = has m x := by
  rw [Bool.eq_iff_iff, has_iff, has_iff]; exact h
theorem has_take {l : List Sn} (hu : Up l) (id seq x : Int) : has (takeL l id seq) x = has l x := by
  unfold takeL
  by_cases hm : (mayL l id seq).1 = true
  · rw [if_pos hm]
    have hh : has l id = true := by
      cases hh : has l id with
      | false => unfold mayL at hm; rw [hh, if_pos rfl] at hm; cases hm
      | true => rfl
    obtain ⟨hp, he⟩ := has_pos hu hh
    refine has_congr ⟨?_, ?_⟩
    · rintro ⟨s, hs, rfl⟩
      rcases List.mem_or_eq_of_mem_set hs with hs | rfl
      · exact ⟨s, hs, rfl⟩
      · exact ⟨_, List.getElem_mem hp, he⟩
    · rintro ⟨s, hs, rfl⟩
      obtain ⟨i, hi, rfl⟩ := List.getElem_of_mem hs
      by_cases e : pos l id = i
      · exact ⟨(id, seq), List.mem_iff_getElem.2 ⟨i, by rw [List.length_set]; exact hi, by rw [List.getElem_set, if_pos e]⟩, by subst e; exact he.symm⟩
      · exact ⟨l[i], List.mem_iff_getElem.2 ⟨i, by rw [List.length_set]; exact hi, by rw [List.getElem_set, if_neg e]⟩, rfl⟩
  · rw [if_neg hm]
theorem len_take (l : List Sn) (id seq : Int) : (takeL l id seq).length = l.length := by
  unfold takeL
  split
  · rw [List.length_set]
  · rfl
theorem len_del {l : List Sn} (hu : Up l) {id : Int} (h : has l id = true) : (delL l id).length = l.length - 1 := by
  obtain ⟨hp, _⟩ := has_pos hu h
  unfold delL; simp; omega
theorem up_sub {l m : List Sn} (hu : Up l) (h : m.Sublist l) : Up m := up_pair.2 (List.Pairwise.sublist h (up_pair.1 hu))
theorem del_sub (l : List Sn) (id : Int) : (delL l id).Sublist l := by
  unfold delL
  have h := List.take_append_drop (pos l id) l
  conv => rhs; rw [← h]
  refine List.Sublist.append (List.Sublist.refl _) ?_
  rw [← List.drop_drop]
  exact List.drop_sublist _ _
theorem good_del {l : List Sn} (h : Good l) (id : Int) : Good (delL l id) :=
  ⟨up_sub h.up (del_sub l id), Nat.le_trans (del_sub l id).length_le h.len, fun s hs => h.rg s ((del_sub l id).subset hs)⟩
theorem good_close {l : List Sn} (h : Good l) (id : Int) : Good (closeL l id).1 := by
  unfold closeL
  split
  · exact h
  · exact good_del h id
theorem has_del {l : List Sn} (hu : Up l) {id : Int} (h : has l id = true) (x : Int) : has (delL l id) x = (has l x && !(x == id)) := by
  obtain ⟨hp, he⟩ := has_pos hu h
  rw [Bool.eq_iff_iff, has_iff, Bool.and_eq_true, has_iff]
  obtain ⟨h1, h2⟩ := pos_lt hu id
  have hc : l.drop (pos l id) = l[pos l id] :: l.drop (pos l id + 1) := List.drop_eq_getElem_cons hp
  have hp2 := up_pair.1 hu
  rw [← List.take_append_drop (pos l id) l, List.pairwise_append] at hp2
  have hp3 := hp2.2.1
  rw [hc, List.pairwise_cons] at hp3
  unfold delL
  constructor
  · rintro ⟨s, hs, rfl⟩
    rw [List.mem_append] at hs
    rcases hs with hs | hs
    · exact ⟨⟨s, List.mem_of_mem_take hs, rfl⟩, by have := h1 s hs; simp; omega⟩
    · exact ⟨⟨s, List.mem_of_mem_drop hs, rfl⟩, by have := hp3.1 s hs; rw [he] at this; simp; omega⟩
  · rintro ⟨⟨s, hs, rfl⟩, hne⟩
    have hne : s.1 ≠ id := by simpa using hne
    rw [← List.take_append_drop (pos l id) l, List.mem_append, hc, List.mem_cons] at hs
    rcases hs with hs | rfl | hs
    · exact ⟨s, List.mem_append.2 (.inl hs), rfl⟩
    · exact absurd he hne
    · exact ⟨s, List.mem_append.2 (.inr hs), rfl⟩

/-- The sessions F, F + 2, .. -/
def fl (F : Int) (i : Nat) : List Sn := (List.range i).map fun (j : Nat) => (F + 2 * (j : Int), 0)
theorem fl_succ (F : Int) (i : Nat) : fl F (i + 1) = fl F i ++ [(F + 2 * (i : Int), 0)] := by unfold fl; rw [List.range_succ, List.map_append]; rfl
theorem fl_len (F : Int) (i : Nat) : (fl F i).length = i := by simp [fl]
theorem fl_has (F : Int) (i : Nat) (x : Int) : has (fl F i) x = true ↔ ∃ j, j < i ∧ x = F + 2 * (j : Int) := by
  rw [has_iff]
  unfold fl
  constructor
  · rintro ⟨s, hs, rfl⟩
    simp only [List.mem_map, List.mem_range] at hs
    obtain ⟨j, hj, rfl⟩ := hs
    exact ⟨j, hj, rfl⟩
  · rintro ⟨j, hj, rfl⟩
    exact ⟨(F + 2 * (j : Int), 0), by simp only [List.mem_map, List.mem_range]; exact ⟨j, hj, rfl⟩, rfl⟩
theorem fl_good (F : Int) (h1 : 1 ≤ F) (h2 : F ≤ 1000) (i : Nat) (hi : i ≤ 32) : Good (fl F i) := by
  refine ⟨fun a b ha hb hab => ?_, by rw [fl_len]; exact hi, fun s hs => ?_⟩
  · simp only [fl, List.getElem_map, List.getElem_range]
    omega
  · simp only [fl, List.mem_map, List.mem_range] at hs
    obtain ⟨j, hj, rfl⟩ := hs
    exact ⟨⟨by show 1 ≤ F + 2 * (j : Int); omega, by show F + 2 * (j : Int) ≤ _; omega⟩, Int.le_refl 0, by show (0 : Int) ≤ 549755813888; omega⟩
theorem fl_open (F : Int) (h1 : 1 ≤ F) (h2 : F ≤ 1000) (i : Nat) (hi : i < 32) : openL (fl F i) (F + 2 * (i : Int)) = (fl F (i + 1), 0) := by
  have hb : numB (F + 2 * (i : Int)) = true := decide_eq_true ⟨by omega, by omega⟩
  have hh : has (fl F i) (F + 2 * (i : Int)) = false := by
    rw [Bool.eq_false_iff]
    intro h
    obtain ⟨j, hj, he⟩ := (fl_has F i _).1 h
    omega
  have hp : pos (fl F i) (F + 2 * (i : Int)) = i := pos_cut (by rw [fl_len]; exact Nat.le_refl _) (fun t ht hti => by simp only [fl, List.getElem_map, List.getElem_range]; omega) (fun t ht hti => by rw [fl_len] at ht; omega)
  unfold openL
  rw [hb, if_neg (by simp), hh, if_neg (by simp), if_neg (by rw [fl_len]; omega)]
  have hi' : insL (fl F i) (F + 2 * (i : Int), 0) = fl F (i + 1) := by
    unfold insL
    show (fl F i).take (pos (fl F i) (F + 2 * (i : Int))) ++ _ ++ (fl F i).drop (pos (fl F i) (F + 2 * (i : Int))) = _
    rw [hp, fl_succ, List.take_of_length_le (by rw [fl_len]; exact Nat.le_refl _), List.drop_of_length_le (by rw [fl_len]; exact Nat.le_refl _), List.append_nil]
  rw [hi']
theorem fl_may (F : Int) (h1 : 1 ≤ F) (h2 : F ≤ 1000) (c : Nat) (hc : c < 32) : mayL (fl F 32) (F + 2 * (c : Int)) 1 = (true, 0) := by
  have hh : has (fl F 32) (F + 2 * (c : Int)) = true := (fl_has F 32 _).2 ⟨c, hc, rfl⟩
  have hs : sq (fl F 32) (F + 2 * (c : Int)) = 0 := by
    obtain ⟨hp, _⟩ := has_pos (fl_good F h1 h2 32 (by omega)).up hh
    unfold sq
    rw [List.getD_eq_getElem?_getD, List.getElem?_eq_getElem hp]
    simp [fl]
  unfold mayL
  rw [hh, hs, if_neg (by simp), if_neg (by decide), if_neg (by decide)]
  rfl
/-- What SessFull asks, of the table behind the 32. -/
theorem full_facts (F : Int) (h1 : 1 ≤ F) (h2 : F ≤ 1000) (c : Nat) (hc : c < 32) (l2 l3 : List Sn) (e2 : l2 = takeL (fl F 32) (F + 2 * (c : Int)) 1) (e3 : l3 = delL l2 (F + 2 * (c : Int))) :
    Good l2 ∧ Good l3 ∧ openL l2 (F + 1) = (l2, 7) ∧ openL l2 (F + 2 * (c : Int)) = (l2, 9) ∧ closeL l2 (F + 2 * (c : Int)) = (l3, 0) ∧ closeL l3 (F + 2 * (c : Int)) = (l3, 4) ∧ (openL l3 (F + 1)).2 = 0 ∧ (openL l3 (F + 1)).1.length = 32 := by
  have hg := fl_good F h1 h2 32 (by omega)
  have g2 : Good l2 := by rw [e2]; exact good_take hg _ _
  have g3 : Good l3 := by rw [e3]; exact good_del g2 _
  have hn : has l2 (F + 1) = false := by
    rw [e2, has_take hg.up, Bool.eq_false_iff]
    intro h
    obtain ⟨j, hj, he⟩ := (fl_has F 32 _).1 h
    omega
  have hy : has l2 (F + 2 * (c : Int)) = true := by rw [e2, has_take hg.up]; exact (fl_has F 32 _).2 ⟨c, hc, rfl⟩
  have l32 : l2.length = 32 := by rw [e2, len_take, fl_len]
  have l31 : l3.length = 31 := by rw [e3, len_del g2.up hy, l32]
  have hn3 : has l3 (F + 1) = false := by rw [e3, has_del g2.up hy, hn]; rfl
  have hy3 : has l3 (F + 2 * (c : Int)) = false := by rw [e3, has_del g2.up hy]; simp
  have b1 : numB (F + 1) = true := decide_eq_true ⟨by omega, by omega⟩
  have b2 : numB (F + 2 * (c : Int)) = true := decide_eq_true ⟨by omega, by omega⟩
  refine ⟨g2, g3, ?_, ?_, ?_, ?_, ?_, ?_⟩
  · unfold openL; rw [b1, if_neg (by simp), hn, if_neg (by simp), if_pos (by omega)]
  · unfold openL; rw [b2, if_neg (by simp), hy, if_pos rfl]
  · unfold closeL; rw [hy, if_neg (by simp), e3]
  · unfold closeL; rw [hy3, if_pos rfl]
  · unfold openL; rw [b1, if_neg (by simp), hn3, if_neg (by simp), if_neg (by omega)]
  · unfold openL; rw [b1, if_neg (by simp), hn3, if_neg (by simp), if_neg (by omega)]; show (insL l3 (F + 1, 0)).length = 32; rw [insL_len, l31]
end Go.Proofs.Ytcbafomhifdgpaa.Ss
end

section
/- Tables of sessions: which table a text says. -/
namespace Go.Proofs.Ytcbafomhifdgpaa.Ss
open Go.RowKit Mem Si Bits
open Ke (numI numI_size St nx nv nx_form)
set_option linter.unusedSimpArgs false
set_option linter.unusedVariables false

def lastI (l : List Sn) : Int := match l.getLast? with | some s => s.1 | none => 0
def okR (l : List Sn) (id seq : Int) : Bool := decide (lastI l < id ∧ id ≤ 549755813888 ∧ seq ≤ 549755813888)
def rdK (p : St) : Nat → Option (List Sn × St)
  | 0 => some ([], p)
  | k + 1 => match rdK p k with
    | none => none
    | some (l, q) => if okR l (nv q) (nv (nx q)) = true then some (l ++ [((nv q : Int), (nv (nx q) : Int))], nx (nx q)) else none
def readT (s : ByteArray) : Option (List Sn) :=
  if 32 < nv (s, 0) then none else match rdK (nx (s, 0)) (nv (s, 0)) with
    | none => none
    | some (l, q) => if endE q.1 q.2 = 0 then some l else none

theorem rdK_step {p : St} {k : Nat} {l : List Sn} {q : St} (h : rdK p k = some (l, q)) : rdK p (k + 1) = if okR l (nv q) (nv (nx q)) = true then some (l ++ [((nv q : Int), (nv (nx q) : Int))], nx (nx q)) else none := by
  show (match rdK p k with | none => none | some (l, q) => _) = _
  rw [h]
theorem rdK_none {p : St} {k : Nat} (h : rdK p k = none) : ∀ d, rdK p (k + d) = none
  | 0 => h
  | d + 1 => by
    show (match rdK p (k + d) with | none => none | some (l, q) => _) = _
    rw [rdK_none h d]
theorem lastI_snoc (l : List Sn) (s : Sn) : lastI (l ++ [s]) = s.1 := by unfold lastI; simp
/-- What has been read so far. -/
structure RdOK (p : St) (k : Nat) (l : List Sn) (q : St) : Prop where
  len : l.length = k
  size : q.1.size ≤ p.1.size
  up : Up l
  last : ∀ s ∈ l, s.1 ≤ lastI l
  lb : 0 ≤ lastI l ∧ lastI l ≤ 549755813888
  rg : ∀ s ∈ l, (1 ≤ s.1 ∧ s.1 ≤ 549755813888) ∧ (0 ≤ s.2 ∧ s.2 ≤ 549755813888)
theorem rdK_ok (p : St) : ∀ k l q, rdK p k = some (l, q) → RdOK p k l q
  | 0, l, q, h => by
    have h : some (([] : List Sn), p) = some (l, q) := h
    injection h with h
    injection h with h1 h2
    subst h1 h2
    exact ⟨rfl, Nat.le_refl _, fun i j hi => by simp at hi, by simp, ⟨Int.le_refl _, by show (0 : Int) ≤ 549755813888; omega⟩, by simp⟩
  | k + 1, l, q, h => by
    cases hk : rdK p k with
    | none => rw [show rdK p (k + 1) = none from rdK_none hk 1] at h; cases h
    | some x =>
      obtain ⟨l0, q0⟩ := x
      have ih := rdK_ok p k l0 q0 hk
      rw [rdK_step hk] at h
      split at h
      · rename_i hok
        injection h with h
        injection h with h1 h2
        subst h1 h2
        have hok : lastI l0 < nv q0 ∧ (nv q0 : Int) ≤ 549755813888 ∧ (nv (nx q0) : Int) ≤ 549755813888 := of_decide_eq_true hok
        have hlb := ih.lb.1
        refine ⟨by rw [List.length_append, ih.len]; rfl, Nat.le_trans (Nat.le_trans (Ke.nx_size _) (Ke.nx_size _)) ih.size, ?_, ?_, ?_, ?_⟩
        · refine up_pair.2 (List.pairwise_append.2 ⟨up_pair.1 ih.up, List.pairwise_singleton _ _, fun a ha b hb => ?_⟩)
          obtain rfl : b = _ := by simpa using hb
          have := ih.last a ha
          show a.1 < (nv q0 : Int); omega
        · intro s hs
          rw [lastI_snoc]
          rw [List.mem_append] at hs
          rcases hs with hs | hs
          · have := ih.last s hs; show s.1 ≤ (nv q0 : Int); omega
          · obtain rfl : s = _ := by simpa using hs
            exact Int.le_refl _
        · rw [lastI_snoc]; exact ⟨by show 0 ≤ (nv q0 : Int); omega, hok.2.1⟩
        · intro s hs
          rw [List.mem_append] at hs
          rcases hs with hs | hs
          · exact ih.rg s hs
          · obtain rfl : s = _ := by simpa using hs
            exact ⟨⟨by show 1 ≤ (nv q0 : Int); omega, hok.2.1⟩, ⟨by show 0 ≤ (nv (nx q0) : Int); omega, hok.2.2⟩⟩
      · cases h
theorem rdK_form (p : St) : ∀ k l q, rdK p k = some (l, q) → q.2 = 0 → p.2 = 0 ∧ p.1 = Ke.cat (l.map rowT) ++ q.1
  | 0, l, q, h, hq => by
    have h : some (([] : List Sn), p) = some (l, q) := h
    injection h with h
    injection h with h1 h2
    subst h1 h2
    exact ⟨hq, by show p.1 = ⟨#[]⟩ ++ p.1; rw [Ke.nil_app]⟩
  | k + 1, l, q, h, hq => by
    cases hk : rdK p k with
    | none => rw [show rdK p (k + 1) = none from rdK_none hk 1] at h; cases h
    | some x =>
      obtain ⟨l0, q0⟩ := x
      rw [rdK_step hk] at h
      split at h
      · injection h with h
        injection h with h1 h2
        subst h1 h2
        obtain ⟨f1, f2⟩ := nx_form (nx q0) hq
        obtain ⟨f3, f4⟩ := nx_form q0 f1
        obtain ⟨f5, f6⟩ := rdK_form p k l0 q0 hk f3
        refine ⟨f5, ?_⟩
        rw [f6, f4, f2]
        have hc : Ke.cat ((l0 ++ [((nv q0 : Int), (nv (nx q0) : Int))]).map rowT) = Ke.cat (l0.map rowT) ++ (Bt.numS (nv q0) ++ Bt.numS (nv (nx q0))) := by
          rw [List.map_append, List.map_cons, List.map_nil, Ke.cat_snoc]; rfl
        rw [hc]
        simp only [ByteArray.append_assoc]
      · cases h
theorem readT_good {s : ByteArray} {l : List Sn} (h : readT s = some l) : Good l ∧ txt l = s := by
  unfold readT at h
  split at h
  · cases h
  · rename_i hn
    split at h
    · cases h
    · rename_i l0 q hk
      split at h
      · rename_i he
        injection h with h
        subst h
        have ho := rdK_ok _ _ _ _ hk
        refine ⟨⟨ho.up, by rw [ho.len]; omega, ho.rg⟩, ?_⟩
        have hq : q.2 = 0 ∧ q.1.size = 0 := by
          unfold endE at he
          split at he
          · cases he
          · rename_i hh
            exact ⟨he, Classical.byContradiction fun h => hh ⟨he, h⟩⟩
        obtain ⟨f1, f2⟩ := rdK_form _ _ _ _ hk hq.1
        obtain ⟨_, f3⟩ := nx_form (s, 0) f1
        have hz : q.1 = ⟨#[]⟩ := by
          apply ByteArray.ext
          exact Array.eq_empty_of_size_eq_zero hq.2
        rw [txt_cat, ho.len]
        have f3 : s = Bt.numS (nv (s, 0)) ++ (nx (s, 0)).1 := f3
        rw [hz, Ke.app_nil] at f2
        conv => rhs; rw [f3, f2]
        rfl
      · cases h
end Go.Proofs.Ytcbafomhifdgpaa.Ss
end

section
/- The contract of sess.Read. -/
namespace Go.Proofs.Ytcbafomhifdgpaa.Ss
open Go.RowKit Mem Si Bits
open Ke (St nx nv nx_size nv_lt)
set_option linter.unusedSimpArgs false
set_option linter.unusedVariables false
set_option maxRecDepth 100000

def ReadP (s : ByteArray) (w : World) (e : Ending) (w' : World) : Prop :=
  match readT s with
  | none => e = .returned (.tuple #[.pointer none, .int .i64 3]) ∧ Mod w w' []
  | some l => ∃ t v, e = .returned (.tuple #[.pointer (some ⟨t, 0, none⟩), .int .i64 0]) ∧ Mod w w' [] ∧ w.heap.size ≤ t ∧ TabAt w' t v l
theorem ReadP.bad {s : ByteArray} {w : World} {w' : World} (h : readT s = none) (hm : Mod w w' []) : ReadP s w (.returned (.tuple #[.pointer none, .int .i64 3])) w' := by
  unfold ReadP; rw [h]; exact ⟨rfl, hm⟩
theorem ReadP.good {s : ByteArray} {w : World} {w' : World} {l : List Sn} {t : Nat} {v : Value} (h : readT s = some l) (hm : Mod w w' []) (ht : w.heap.size ≤ t) (hb : TabAt w' t v l) : ReadP s w (.returned (.tuple #[.pointer (some ⟨t, 0, none⟩), .int .i64 0])) w' := by
  unfold ReadP; rw [h]; exact ⟨t, v, rfl, hm, ht, hb⟩
theorem readT_bad {s : ByteArray} {k : Nat} {l : List Sn} {q : St} (h : rdK (nx (s, 0)) k = some (l, q)) (hk : k < nv (s, 0)) (ho : okR l (nv q) (nv (nx q)) = false) : readT s = none := by
  have h1 : rdK (nx (s, 0)) (k + 1) = none := by rw [rdK_step h, ho, if_neg (by simp)]
  have h2 := rdK_none h1 (nv (s, 0) - (k + 1))
  rw [show k + 1 + (nv (s, 0) - (k + 1)) = nv (s, 0) by omega] at h2
  unfold readT
  rw [h2]
  split <;> rfl
theorem readT_end {s : ByteArray} {l : List Sn} {q : St} (hn : nv (s, 0) ≤ 32) (h : rdK (nx (s, 0)) (nv (s, 0)) = some (l, q)) : readT s = if endE q.1 q.2 = 0 then some l else none := by
  unfold readT
  rw [if_neg (by omega), h]

set_option maxHeartbeats 4000000 in
theorem read_calls (s : ByteArray) (hs : s.size ≤ 140737488351232) (w : World) :
    Calls Try.prog 30 #[.string s] w (ReadP s w) := by
  obtain ⟨i0, hi0, hz0, hz1, hz2⟩ := info_parts info_sess
  have AC := Lib.hid (fun w => at_calls s w)
  have NW := Lib.hid new_calls
  have NC := Lib.hid (fun g (q : St) w (hq : q.1.size ≤ s.size) hb => Num_calls g q.1 q.2 w (by omega) hb)
  have N0 := Lib.hid (fun g w hb => Num_calls g s 0 w (by omega) hb)
  have EC := Lib.hid (fun g (q : St) w hb => End_calls g q.1 q.2 w hb)
  have HBAD := Lib.hid (fun k l q => @readT_bad s k l q)
  have HEND := Lib.hid (fun l q => @readT_end s l q)
  have HOK := Lib.hid (rdK_ok (nx (s, 0)))
  have HSZ := Lib.hid (nx_size (s, 0))
  have hbig : 32 < nv (s, 0) → readT s = none := fun h => by unfold readT; rw [if_pos h]
  have HN : Hid (tN s 0 = nv (s, 0) ∧ (tS s 0, tE s 0) = nx (s, 0)) := Lib.hid ⟨rfl, rfl⟩
  have HR0 : Hid (rdK (nx (s, 0)) 0 = some ([], nx (s, 0))) := Lib.hid rfl
  have HSTEP := Lib.hid (fun k l q => @rdK_step (nx (s, 0)) k l q)
  obtain ⟨n, hn⟩ : ∃ n, n = nv (s, 0) := ⟨_, rfl⟩
  have hn64 := nv_lt (s, 0)
  rw [← hn] at hn64 hbig HN HBAD HEND
  obtain ⟨P, hP⟩ : ∃ P, P = nx (s, 0) := ⟨_, rfl⟩
  rw [← hP] at HBAD HEND HOK HSZ HN HR0 HSTEP
  have hHN := HN.out.1
  rw [hHN] at N0
  clear hn hP hHN
  go_enter Try.func30, Try.ntmps30
  go_wp2_with fail
  (with_reducible refine (AC.out _).mono ?_)
  rintro e w1 ⟨rfl, hm1, hb1⟩
  have HM1 := Lib.hid hm1
  have HT1 := Lib.hid hb1
  have hgl := hb1.lt
  clear hm1 hb1
  go_wp2_with fail
  (with_reducible refine (NW.out _).mono ?_)
  rintro e w2 ⟨rfl, hw2⟩
  have hm2 : Mod w1 w2 [] := by rw [hw2]; exact (Mod.refl _ _).alloc _
  have HB2 : Hid (TabAt w2 w1.heap.size (.slice none 0 0) []) := Lib.hid (by rw [hw2]; exact new_tab w1)
  have HM2 := Lib.hid (HM1.out.trans0 hm2)
  have HT2 : Hid (TapeAt w2 w.heap.size s 0) := Lib.hid (Blk.mod HT1.out hm2 (by simp))
  clear hw2 hm2 HM1 HT1
  go_wp2_with fail
  (with_reducible refine (N0.out _ _ HT2.out).mono ?_)
  rintro e w3 ⟨rfl, hm3, ht3⟩
  have HT3 : Hid (TapeAt w3 w.heap.size P.1 P.2) := Lib.hid (by rw [← HN.out.2]; exact ht3)
  have HM3 := Lib.hid (HM2.out.trans hm3 (by simp))
  have HB3 := Lib.hid (HB2.out.mod hm3 (by simp; omega) (fun k hk => by cases hk))
  clear hm3 ht3 HT2 HM2 HB2 HN N0
  by_cases h32 : 32 < n
  · have h32' : (32 : Int) < n := by omega
    have hb := hbig h32
    go_wp2_with fail
    go_ret2
    exact ReadP.bad hb HM3.out
  · have h32' : (n : Int) ≤ 32 := by omega
    clear hbig
    go_wp2_with fail
    go_loopw [7, 18] (fun vl vk wr => ∃ (k : Nat) (l : List Sn) (q : St) (v : Value), k ≤ n ∧ vk = .int .u64 (k : Int) ∧ vl = .int .u64 (lastI l) ∧ Hid (rdK P k = some (l, q)) ∧ Mod w wr [] ∧ TapeAt wr w.heap.size q.1 q.2 ∧ TabAt wr w1.heap.size v l) (fun _ vk _ => 40 - (intOf vk).toNat)
    case atStart => exact ⟨0, [], P, _, Nat.zero_le _, rfl, rfl, HR0, HM3.out, HT3.out, HB3.out⟩
    case round =>
      obtain ⟨k, l, q, v, hk, rfl, rfl, HK, hm, ht, hb⟩ := hrel
      have HM := Lib.hid hm
      have HT := Lib.hid ht
      have HB := Lib.hid hb
      have HO := Lib.hid (HOK.out k l q HK.out)
      clear hm ht hb HM3 HT3 HB3
      by_cases hlt : k < n
      · have hlt' : (k : Int) < n := by omega
        have hqs := Nat.le_trans HO.out.size HSZ.out
        have NC1 := Lib.hid (fun w hb => NC.out w.heap.size q w hqs hb)
        have NCa := Lib.hid (fun w' hb => NC.out w.heap.size q w' hqs hb)
        have NCb := Lib.hid (fun w' hb => NC.out w.heap.size (nx q) w' (Nat.le_trans (nx_size q) hqs) hb)
        have HID : Hid (tN q.1 q.2 = nv q ∧ tN (nx q).1 (nx q).2 = nv (nx q)) := Lib.hid ⟨rfl, rfl⟩
        rw [HID.out.1] at NCa
        rw [HID.out.2] at NCb
        have hb1 := nv_lt q
        have hb2 := nv_lt (nx q)
        have HQ2 : Hid (((tS (nx q).1 (nx q).2), (tE (nx q).1 (nx q).2)) = nx (nx q) ∧ (tS q.1 q.2, tE q.1 q.2) = nx q) := Lib.hid ⟨rfl, rfl⟩
        have HST := Lib.hid (HSTEP.out k l q HK.out)
        have HBD := Lib.hid (HBAD.out k l q HK.out hlt)
        have hlb := HO.out.lb
        have hll := HO.out.len
        clear HID NC1 HK
        obtain ⟨ix, hix⟩ : ∃ ix, ix = nv q := ⟨_, rfl⟩
        obtain ⟨sx, hsx⟩ : ∃ sx, sx = nv (nx q) := ⟨_, rfl⟩
        rw [← hix] at NCa hb1 HST HBD
        rw [← hsx] at NCb hb2 HST HBD
        clear hix hsx
        have HOKR : Hid (okR l ix sx = decide (lastI l < (ix : Int) ∧ (ix : Int) ≤ 549755813888 ∧ (sx : Int) ≤ 549755813888)) := Lib.hid rfl
        have HLS := Lib.hid (fun s => lastI_snoc l s)
        generalize lastI l = la at *
        have hgt : w.heap.size ∉ ([] : List Nat) := by simp
        have htne : w1.heap.size ≠ w.heap.size := by omega
        go_wp2_with fail
        (with_reducible refine (NCa.out _ HT.out).mono ?_)
        rintro e w4 ⟨rfl, hm4, ht4⟩
        have HT4 : Hid (TapeAt w4 w.heap.size (nx q).1 (nx q).2) := Lib.hid ht4
        have HM4 := Lib.hid (HM.out.trans hm4 (by simp))
        have HB4 := Lib.hid (HB.out.mod hm4 (by simpa using htne) (fun j hj => by have := (HB.out.own j hj).1; simp; omega))
        clear hm4 ht4 HM HB HT
        go_wp2_with fail
        (with_reducible refine (NCb.out _ HT4.out).mono ?_)
        rintro e w5 ⟨rfl, hm5, ht5⟩
        have HT5 : Hid (TapeAt w5 w.heap.size (nx (nx q)).1 (nx (nx q)).2) := Lib.hid ht5
        have HM5 := Lib.hid (HM4.out.trans hm5 (by simp))
        have HB5 := Lib.hid (HB4.out.mod hm5 (by simpa using htne) (fun j hj => by have := (HB4.out.own j hj).1; simp; omega))
        clear hm5 ht5 HM4 HB4 HT4 NCa NCb
        by_cases k1 : la < (ix : Int)
        · by_cases k2 : (ix : Int) ≤ 549755813888
          · by_cases k3 : (sx : Int) ≤ 549755813888
            · have hok : okR l ix sx = true := by rw [HOKR.out]; exact decide_eq_true ⟨k1, k2, k3⟩
              rw [hok, if_pos rfl] at HST
              have c0 := HB5.out.1.cell 0
              have f0 := HB5.out.1.free 0
              have hw1 := IntWalk.i64_in (ix : Int) (by omega)
              have hw2 := IntWalk.i64_in (sx : Int) (by omega)
              have hown : w5.ownsRow (w1.heap.size + 1) 107 2 v k (rowsC l) := by have h := HB5.out.2; unfold RowsAt at h; rw [hll] at h; exact h
              have HOW := Lib.hid hown
              have hlow := (HB5.out.1).lt
              obtain ⟨ra, rc, hv⟩ := Rw.own_slice hown
              have H2C := Lib.hid (two_cells (Blk.new w5 #[.int .i64 (ix : Int), .int .i64 (sx : Int)] 107))
              have HRS := Lib.hid (show rowsC (l ++ [((ix : Int), (sx : Int))]) = rowsC l ++ [.int .i64 (ix : Int), .int .i64 (sx : Int)] by rw [rowsC_append]; rfl)
              subst hv
              clear hown HBD HOKR hok
              generalize hys : rowsC l = ys at *
              go_wp2_with (at_builtin; refine wpList_append_own _ rfl _ _ 57 rfl (w1.heap.size + 1) 107 i0 _ 2 16 Try.underlying57 hi0 hz0 hz1 hz2 rfl (by decide) _ _ _ rfl (HOW.out.alloc _) ⟨w5.heap.size, 0, none⟩ 1 1 [.int .i64 (ix : Int), .int .i64 (sx : Int)] rfl rfl H2C.out (by simp [Value.oneCell']) (by unfold maxLen; omega) (by omega) (by simp; omega) ?_; intro v' w6 hown' hgrow hnil; clear hnil; have HO1 := Lib.hid hown'; have HG1 := Lib.hid hgrow; have HB6 := Lib.hid (Rw.blk_grown (HB5.out.1.alloc (.cells #[.int .i64 (ix : Int), .int .i64 (sx : Int)] 107)) hgrow (fun e => by have := (HB5.out.own _ e.symm).1; omega)); have d0 := HB6.out.cell 0; have g0 := HB6.out.free 0; clear hown' hgrow; obtain ⟨ra', rc', hv'⟩ := Rw.own_slice HO1.out; subst hv')
              go_roundw
              case rel =>
                have hgg : ∀ j, (Value.slice ra k rc).ownBlock = some j → w1.heap.size < j := fun j hj => by have := own_ge HOW.out j hj; omega
                refine ⟨k + 1, l ++ [((ix : Int), (sx : Int))], nx (nx q), .slice ra' (k + 1) rc', by omega, by go_num, by rw [HLS.out], HST, ?_, ?_, ?_, ?_⟩
                · exact ((HM5.out.alloc _).grown HG1.out (fun j hj => .inr (by have := hgg j hj; omega))).setCell (.inr (by show w.heap.size ≤ w1.heap.size; omega)) _
                · refine Blk.far (Rw.blk_grown (Blk.alloc HT5.out _) HG1.out (fun e => by have := hgg _ e.symm; omega)) (by show w.heap.size ≠ w1.heap.size; omega) _
                · have := HB6.out.set 0 (.slice ra' (k + 1) rc')
                  simpa using this
                · unfold RowsAt
                  rw [HRS.out, List.length_append, hll]
                  exact own_mod HO1.out ((Mod.refl w6 [w1.heap.size]).setCell (by simp) _) (fun j hj => by have := own_ge HO1.out j hj; simp; omega)
              case measure => simp [intOf]; omega
            · have hbd := HBD.out (by rw [HOKR.out]; exact decide_eq_false (fun h => k3 h.2.2))
              have k3' : (549755813888 : Int) < sx := by omega
              clear HBD HST
              go_wp2_with fail
              go_ret2
              exact ReadP.bad hbd HM5.out
          · have hbd := HBD.out (by rw [HOKR.out]; exact decide_eq_false (fun h => k2 h.2.1))
            have k2' : (549755813888 : Int) < ix := by omega
            clear HBD HST
            go_wp2_with fail
            go_ret2
            exact ReadP.bad hbd HM5.out
        · have hbd := HBD.out (by rw [HOKR.out]; exact decide_eq_false (fun h => k1 h.1))
          have k1' : (ix : Int) ≤ la := by omega
          clear HBD HST
          go_wp2_with fail
          go_ret2
          exact ReadP.bad hbd HM5.out
      · have hge : (n : Int) ≤ k := by omega
        have hkn : k = n := by omega
        have hE := HEND.out l q (by omega) (hkn ▸ HK.out)
        have EC1 := Lib.hid (EC.out w.heap.size q _ HT.out)
        by_cases he : endE q.1 q.2 = 0
        · rw [if_pos he] at hE
          rw [he] at EC1
          clear he hkn
          go_wp2_with fail
          (with_reducible refine (EC1.out).mono ?_)
          rintro e w6 ⟨rfl, rfl⟩
          go_wp2_with fail
          go_ret2
          exact ReadP.good hE HM.out (by omega) HB.out
        · rw [if_neg he] at hE
          generalize endE q.1 q.2 = E at *
          clear hkn
          go_wp2_with fail
          (with_reducible refine (EC1.out).mono ?_)
          rintro e w6 ⟨rfl, rfl⟩
          go_wp2_with fail
          go_ret2
          exact ReadP.bad hE HM.out
end Go.Proofs.Ytcbafomhifdgpaa.Ss
end

section
/- The contract of the reference's Read. -/
namespace Go.Proofs.Ytcbafomhifdgpaa.Ss
open Go.RowKit Mem Si Bits
open Ke (St nx nv nx_size nv_lt)
set_option linter.unusedSimpArgs false
set_option linter.unusedVariables false
set_option maxRecDepth 100000

theorem own_base {w : World} {base b' : Nat} {e : TypeId} {size : Nat} {v : Value} {n : Nat} {xs : List Value} (h : w.ownsRow base e size v n xs) (hb : b' ≤ base) : w.ownsRow b' e size v n xs := by
  obtain ⟨h0, h1 | ⟨g, cap, cur, hv, hg, hr⟩⟩ := h
  · exact ⟨h0, .inl h1⟩
  · exact ⟨h0, .inr ⟨g, cap, cur, hv, Nat.le_trans hb hg, hr⟩⟩

def RReadP (s : ByteArray) (w : World) (e : Ending) (w' : World) : Prop :=
  match readT s with
  | none => e = .returned (.tuple #[.agg #[.slice none 0 0], .int .i64 3]) ∧ Mod w w' []
  | some l => ∃ v, e = .returned (.tuple #[.agg #[v], .int .i64 0]) ∧ Mod w w' [] ∧ RefAt w' w.heap.size v l
theorem RReadP.bad {s : ByteArray} {w : World} {w' : World} (h : readT s = none) (hm : Mod w w' []) : RReadP s w (.returned (.tuple #[.agg #[.slice none 0 0], .int .i64 3])) w' := by
  unfold RReadP; rw [h]; exact ⟨rfl, hm⟩
theorem RReadP.good {s : ByteArray} {w : World} {w' : World} {l : List Sn} {v : Value} (h : readT s = some l) (hm : Mod w w' []) (hb : RefAt w' w.heap.size v l) : RReadP s w (.returned (.tuple #[.agg #[v], .int .i64 0])) w' := by
  unfold RReadP; rw [h]; exact ⟨v, rfl, hm, hb⟩
theorem rnx_calls (p : St) (w : World) (hs : p.1.size ≤ 140737488355328) :
    Calls Try.prog 49 #[tapeV p.1 p.2] w fun e w' => e = .returned (.tuple #[tapeV (nx p).1 (nx p).2, .int .u64 (nv p)]) ∧ Mod w w' [] := rNum_calls p.1 p.2 w hs
theorem rend_calls (p : St) (w : World) :
    Calls Try.prog 51 #[tapeV p.1 p.2] w fun e w' => e = .returned (.int .i64 (endE p.1 p.2)) ∧ Mod w w' [] := rEnd_calls p.1 p.2 w
theorem hold {p : Prop} (h : Hid p) : p := h.out
theorem two_at (w : World) (a b : Value) (t : TypeId) (g : Nat) (hg : g = w.heap.size) : ∀ j u, ([a, b] : List Value)[j]? = some u → (w.alloc (.cells #[a, b] t)).cell? ((⟨g, 0, none⟩ : Addr).add j) = some u := by
  subst hg; exact two_cells (Blk.new w #[a, b] t)
set_option maxHeartbeats 4000000 in
theorem rread_calls (s : ByteArray) (hs : s.size ≤ 140737488351232) (w : World) :
    Calls Try.prog 31 #[.string s] w (RReadP s w) := by
  obtain ⟨i0, hi0, hz0, hz1, hz2⟩ := info_parts info_ref
  have NC := Lib.hid (fun p w (h : p.1.size ≤ s.size) => rnx_calls p w (by omega))
  have N0 := Lib.hid (fun w => rnx_calls (s, 0) w (by show s.size ≤ _; omega))
  have HBAD := Lib.hid (fun k l q => @readT_bad s k l q)
  have HEND := Lib.hid (fun l q => @readT_end s l q)
  have HOK := Lib.hid (rdK_ok (nx (s, 0)))
  have HSZ := Lib.hid (nx_size (s, 0))
  have hbig : 32 < nv (s, 0) → readT s = none := fun h => by unfold readT; rw [if_pos h]
  have HR0 : Hid (rdK (nx (s, 0)) 0 = some ([], nx (s, 0))) := Lib.hid rfl
  have HSTEP := Lib.hid (fun k l q => @rdK_step (nx (s, 0)) k l q)
  obtain ⟨n, hn⟩ : ∃ n, n = nv (s, 0) := ⟨_, rfl⟩
  have hn64 := nv_lt (s, 0)
  rw [← hn] at hn64 hbig HBAD HEND N0
  obtain ⟨P, hP⟩ : ∃ P, P = nx (s, 0) := ⟨_, rfl⟩
  rw [← hP] at HBAD HEND HOK HSZ HR0 HSTEP N0
  clear hn hP
  dsimp only at N0
  go_enter Try.func31, Try.ntmps31
  go_wp2_with fail
  (with_reducible refine (N0.out _).mono ?_)
  rintro e w1 ⟨rfl, hm1⟩
  have HM1 := Lib.hid (((Mod.refl w []).alloc (.cells #[.slice none 0 0] 64)).trans0 hm1)
  have HA1 := Lib.hid ((Blk.new w #[.slice none 0 0] 64).mod hm1 (by simp))
  have hla := HA1.out.lt
  clear hm1 N0
  by_cases h32 : 32 < n
  · have h32' : (32 : Int) < n := by omega
    have hb := hbig h32
    have a0 := HA1.out.cell 0
    have a1 := HA1.out.free 0
    have HMF := Lib.hid ((((HM1.out.setCell (p := ⟨w.heap.size, 0, none⟩) (.inr (Nat.le_refl _)) (.slice none 0 0)).alloc (.cells #[.string P.1, .int .i64 P.2] 94)).alloc (.cells #[.slice none 0 0] 64)))
    go_wp2_with fail
    refine bodyPost_ret (v := .tuple #[.agg #[.slice none 0 0], .int .i64 3]) (by simp [results, Try.results31, go_sem, a0, a1, hla]) rfl (RReadP.bad hb HMF.out)
  · have h32' : (n : Int) ≤ 32 := by omega
    have hnw := IntWalk.i64_in (n : Int) (by omega)
    clear hbig
    have HM2 := Lib.hid ((HM1.out.alloc (.cells #[.string P.1, .int .i64 P.2] 94)).alloc (.cells #[.slice none 0 0] 64))
    have HA2 := Lib.hid ((HA1.out.alloc (.cells #[.string P.1, .int .i64 P.2] 94)).alloc (.cells #[.slice none 0 0] 64))
    have HB2 := Lib.hid ((Blk.new w1 #[.string P.1, .int .i64 P.2] 94).alloc (.cells #[.slice none 0 0] 64))
    have hc2 := Blk.new (w1.alloc (.cells #[.string P.1, .int .i64 P.2] 94)) #[.slice none 0 0] 64
    rw [World.size_alloc] at hc2
    have HC2 := Lib.hid hc2
    clear HM1 HA1 hc2
    go_wp2_with fail
    generalize (w1.alloc _).alloc _ = W at HM2 HA2 HB2 HC2 ⊢
    go_loopw [7] (fun vk wr => ∃ (k : Nat) (l : List Sn) (q : St) (v : Value), k ≤ n ∧ vk = .int .i64 (k : Int) ∧ Hid (rdK P k = some (l, q)) ∧ Mod w wr [] ∧ Blk wr w.heap.size #[.slice none 0 0] 64 ∧ Blk wr w1.heap.size #[.string q.1, .int .i64 q.2] 94 ∧ Blk wr (w1.heap.size + 1) #[v] 64 ∧ wr.ownsRow (w1.heap.size + 2) 108 2 v k (rowsC l)) (fun vk _ => 40 - (intOf vk).toNat)
    case atStart => exact ⟨0, [], P, _, Nat.zero_le _, rfl, HR0, HM2.out, HA2.out, HB2.out, HC2.out, World.ownsRow_nil _ _ _ _⟩
    case round =>
      obtain ⟨k, l, q, v, hk, rfl, HK, hm, ha, hb, hc, ho⟩ := hrel
      have HM := Lib.hid hm
      have HA := Lib.hid ha
      have HB := Lib.hid hb
      have HC := Lib.hid hc
      have HOW := Lib.hid ho
      have HO := Lib.hid (HOK.out k l q HK.out)
      have b0 := HB.out.cell 0
      have b1 := HB.out.cell 1
      have hcl := HC.out.lt
      have c0 := HC.out.cell 0
      clear hm ha hb hc ho HM2 HA2 HB2 HC2
      by_cases hlt : k < n
      · have hlt' : (k : Int) < n := by omega
        have hqs := Nat.le_trans HO.out.size HSZ.out
        have NCa := Lib.hid (fun w' => NC.out q w' hqs)
        have NCb := Lib.hid (fun w' => NC.out (nx q) w' (Nat.le_trans (nx_size q) hqs))
        have hb1 := nv_lt q
        have hb2 := nv_lt (nx q)
        have HST := Lib.hid (HSTEP.out k l q HK.out)
        have HBD := Lib.hid (HBAD.out k l q HK.out hlt)
        have hlb := HO.out.lb
        have hll := HO.out.len
        have HLZ : Hid (k = 0 → lastI l = 0) := Lib.hid (fun h => by
          have h0 : l.length = 0 := by omega
          rw [List.eq_nil_of_length_eq_zero h0]; rfl)
        have HLP : Hid (∀ h : 0 < k, lastI l = (l[k - 1]'(by omega)).1) := Lib.hid (fun h => by
          unfold lastI
          rw [List.getLast?_eq_getElem?, List.getElem?_eq_getElem (show l.length - 1 < l.length by omega)]
          simp only [hll])
        have HRG : Hid (∀ h : 0 < k, 1 ≤ (l[k - 1]'(by omega)).1) := Lib.hid (fun h => (HO.out.rg _ (List.getElem_mem _)).1.1)
        clear HK HO
        obtain ⟨ix, hix⟩ : ∃ ix, ix = nv q := ⟨_, rfl⟩
        obtain ⟨sx, hsx⟩ : ∃ sx, sx = nv (nx q) := ⟨_, rfl⟩
        rw [← hix] at NCa hb1 HST HBD
        rw [← hsx] at NCb hb2 HST HBD
        clear hix hsx
        have HOKR : Hid (okR l ix sx = decide (lastI l < (ix : Int) ∧ (ix : Int) ≤ 549755813888 ∧ (sx : Int) ≤ 549755813888)) := Lib.hid rfl
        have HLS := Lib.hid (fun s => lastI_snoc l s)
        generalize hq1 : nx q = q1 at *
        generalize hq2 : nx q1 = q2 at *
        clear hq1 hq2
        have hAB : w.heap.size < w1.heap.size := hla
        go_wp2_with fail
        (with_reducible refine (NCa.out _).mono ?_)
        rintro e w2 ⟨rfl, hm2⟩
        have HMa := Lib.hid hm2
        clear hm2 NCa
        go_wp2_with fail
        (with_reducible refine (NCb.out _).mono ?_)
        rintro e w3 ⟨rfl, hm3⟩
        have HMb := Lib.hid ((HMa.out.alloc (.cells #[.string q1.1, .int .i64 q1.2] 94)).trans0 hm3)
        have HA3 := Lib.hid (HA.out.mod HMb.out (by simp))
        have HB3 := Lib.hid (HB.out.mod HMb.out (by simp))
        have HC3 := Lib.hid (HC.out.mod HMb.out (by simp))
        have HO3 := Lib.hid (own_mod HOW.out HMb.out (by simp))
        have HM3 := Lib.hid (HM.out.trans0 HMb.out)
        have hs3 := HMb.out.size
        have hcl3 := HC3.out.lt
        clear hm3 NCb HMa HA HB HC HOW HM b0 b1 c0
        have a0 := HA3.out.cell 0
        have a1 := HA3.out.free 0
        have b0 := HB3.out.cell 0
        have b1 := HB3.out.cell 1
        have b2 := HB3.out.free 0
        have b3 := HB3.out.free 1
        have c0 := HC3.out.cell 0
        have c1 := HC3.out.free 0
        have hA3 : w.heap.size < w3.heap.size := by omega
        have hB3 : w1.heap.size < w3.heap.size := by omega
        have HMS := Lib.hid ((HM3.out.setCell (p := ⟨w1.heap.size, 0, none⟩) (.inr (by show w.heap.size ≤ w1.heap.size; omega)) (.string q2.1)).setCell (p := ⟨w1.heap.size, 1, none⟩) (.inr (by show w.heap.size ≤ w1.heap.size; omega)) (.int .i64 q2.2))
        have HMX := Lib.hid ((HMS.out.setCell (p := ⟨w.heap.size, 0, none⟩) (.inr (Nat.le_refl _)) (.slice none 0 0)).alloc (.cells #[.string q2.1, .int .i64 q2.2] 94))
        have hne1 : w.heap.size ≠ w1.heap.size := by omega
        by_cases k1 : (ix : Int) < 1
        · have k1' := k1
          have hbd := HBD.out (by rw [HOKR.out]; exact decide_eq_false (fun h => by have := h.1; omega))
          clear HBD HST HOKR HLZ HLP HRG HLS
          go_wp2_with fail
          refine bodyPost_ret (v := .tuple #[.agg #[.slice none 0 0], .int .i64 3]) (by simp [results, Try.results31, go_sem, a0, a1, hA3]) rfl (RReadP.bad hbd ?_)
          exact HMX.out
        · by_cases k2 : 549755813888 < (ix : Int)
          · have k1' : 1 ≤ (ix : Int) := by omega
            have hbd := HBD.out (by rw [HOKR.out]; exact decide_eq_false (fun h => by have := h.2.1; omega))
            clear HBD HST HOKR HLZ HLP HRG HLS
            go_wp2_with fail
            refine bodyPost_ret (v := .tuple #[.agg #[.slice none 0 0], .int .i64 3]) (by simp [results, Try.results31, go_sem, a0, a1, hA3]) rfl (RReadP.bad hbd ?_)
            exact HMX.out
          · by_cases k3 : 549755813888 < (sx : Int)
            · have k1' : 1 ≤ (ix : Int) := by omega
              have k2' : (ix : Int) ≤ 549755813888 := by omega
              have hbd := HBD.out (by rw [HOKR.out]; exact decide_eq_false (fun h => by have := h.2.2; omega))
              clear HBD HST HOKR HLZ HLP HRG HLS
              go_wp2_with fail
              refine bodyPost_ret (v := .tuple #[.agg #[.slice none 0 0], .int .i64 3]) (by simp [results, Try.results31, go_sem, a0, a1, hA3]) rfl (RReadP.bad hbd ?_)
              exact HMX.out
            · have k1' : 1 ≤ (ix : Int) := by omega
              have k2' : (ix : Int) ≤ 549755813888 := by omega
              have k3' : (sx : Int) ≤ 549755813888 := by omega
              have hwi := IntWalk.i64_in (ix : Int) (by omega)
              have hws := IntWalk.i64_in (sx : Int) (by omega)
              by_cases k0 : k = 0
              · have hz := HLZ.out k0
                have hok : okR l ix sx = true := by rw [HOKR.out]; exact decide_eq_true ⟨by omega, k2', k3'⟩
                subst k0
                clear HLP HRG hz
                rw [hok, if_pos rfl] at HST
                have hms : Mod w3 (((w3.setCell ⟨w1.heap.size, 0, none⟩ (.string q2.1)).setCell ⟨w1.heap.size, 1, none⟩ (.int .i64 q2.2)).alloc (.cells #[.string q2.1, .int .i64 q2.2] 94)) [w1.heap.size] := (((Mod.refl _ _).setCell (by simp) _).setCell (by simp) _).alloc _
                have HAS := Lib.hid (HA3.out.mod hms (by simpa using hne1))
                have HBS := Lib.hid (((HB3.out.set 0 (.string q2.1)).set 1 (.int .i64 q2.2)).alloc (.cells #[.string q2.1, .int .i64 q2.2] 94))
                have HCS := Lib.hid (HC3.out.mod hms (by simp))
                have HGE := Lib.hid (own_ge HO3.out)
                have HOS := Lib.hid (own_mod HO3.out hms (fun j hj => by have := HGE.out j hj; simp; omega))
                have HMZ := Lib.hid (HMS.out.alloc (.cells #[.string q2.1, .int .i64 q2.2] 94))
                have HRS := Lib.hid (show rowsC (l ++ [((ix : Int), (sx : Int))]) = rowsC l ++ [.int .i64 (ix : Int), .int .i64 (sx : Int)] by rw [rowsC_append]; rfl)
                clear hms HBD HOKR hok HLZ HMX a0 a1
                go_wp2_with (at_builtin; refine hold ?_)
                refine Lib.hid ?_
                refine wpList_append_own _ rfl _ _ 55 rfl (w1.heap.size + 2) 108 i0 _ 2 16 Try.underlying55 hi0 hz0 hz1 hz2 rfl (by decide) _ 0 _ rfl (HOS.out.alloc _) ⟨w3.heap.size + 1, 0, none⟩ 1 1 [.int .i64 (ix : Int), .int .i64 (sx : Int)] rfl rfl (two_at _ _ _ _ _ (by simp [World.setCell])) (by simp [Value.oneCell']) (by unfold maxLen; omega) (by omega) (by simp [World.setCell]; omega) ?_
                intro v' w6 hown' hgrow hnil
                clear hnil
                obtain ⟨ra', rc', rfl⟩ := Rw.own_slice hown'
                have HO1 := Lib.hid hown'
                have HA6 := Lib.hid (Rw.blk_grown (HAS.out.alloc (.cells #[.int .i64 (ix : Int), .int .i64 (sx : Int)] 108)) hgrow (fun e => by have := HGE.out _ e.symm; omega))
                have HB6 := Lib.hid (Rw.blk_grown (HBS.out.alloc (.cells #[.int .i64 (ix : Int), .int .i64 (sx : Int)] 108)) hgrow (fun e => by have := HGE.out _ e.symm; omega))
                have HC6 := Lib.hid (Rw.blk_grown (HCS.out.alloc (.cells #[.int .i64 (ix : Int), .int .i64 (sx : Int)] 108)) hgrow (fun e => by have := HGE.out _ e.symm; omega))
                have HM6 := Lib.hid ((HMZ.out.alloc (.cells #[.int .i64 (ix : Int), .int .i64 (sx : Int)] 108)).grown hgrow (fun j hj => .inr (by have := HGE.out j hj; omega)))
                have d0 := HC6.out.cell 0
                have d1 := HC6.out.free 0
                clear hown' hgrow
                go_wp2_with fail
                go_roundw
                case rel =>
                  have hms : Mod w6 (w6.setCell ⟨w1.heap.size + 1, 0, none⟩ (.slice ra' (0 + 1) rc')) [w1.heap.size + 1] := (Mod.refl _ _).setCell (by simp) _
                  refine ⟨0 + 1, l ++ [((ix : Int), (sx : Int))], q2, .slice ra' (0 + 1) rc', by omega, by go_num, HST, ?_, HA6.out.mod hms (by simp; omega), HB6.out.mod hms (by simp), ?_, ?_⟩
                  · exact HM6.out.setCell (.inr (by show w.heap.size ≤ w1.heap.size + 1; omega)) _
                  · have := HC6.out.set 0 (.slice ra' (0 + 1) rc')
                    simpa using this
                  · rw [HRS.out]
                    exact own_mod HO1.out hms (fun j hj => by have := own_ge HO1.out j hj; simp; omega)
                case measure => first | (simp [intOf]; done) | (simp [intOf]; omega)
              · obtain ⟨j, rfl⟩ : ∃ j, k = j + 1 := ⟨k - 1, by omega⟩
                have hjl : j < l.length := by omega
                have hlp := HLP.out (by omega)
                simp only [Nat.add_sub_cancel] at hlp
                rcases Rw.own_cellN HO3.out with ⟨_, h0, _⟩ | ⟨g, cap, hv, hg1, hg2, hg3, hg4, hg5⟩
                · omega
                · obtain ⟨e0, _⟩ := rowsC_get l j hjl
                  obtain ⟨e1, e2⟩ := List.getElem?_eq_some_iff.1 e0
                  have f0 := hg5 _ e1
                  rw [e2, ← hlp] at f0
                  have hgB : g ≠ w1.heap.size := by omega
                  have hgB' : w1.heap.size ≠ g := by omega
                  have hgl : g < w3.heap.size := (Rw.cell_lt f0)
                  have hj0 : (0 : Int) < (j : Int) + 1 := by omega
                  have hjj : ((j + 1 : Nat) : Int) - 1 = (j : Int) := by omega
                  have hjl' : j < j + 1 := by omega
                  have hjw := IntWalk.i64_in (j : Int) (by omega)
                  subst hv
                  clear hlp e0 e1 e2 hg5 HLP HRG
                  have hlbd := hlb.2
                  generalize lastI l = la at *
                  by_cases k4 : (ix : Int) ≤ la
                  · have k4' := k4
                    have hbd := HBD.out (by rw [HOKR.out]; exact decide_eq_false (fun h => by have := h.1; omega))
                    clear HBD HST HOKR HLZ HLS
                    go_wp2_with fail
                    refine bodyPost_ret (v := .tuple #[.agg #[.slice none 0 0], .int .i64 3]) (by simp [results, Try.results31, go_sem, a0, a1, hA3]) rfl (RReadP.bad hbd ?_)
                    exact HMX.out
                  · have hok : okR l ix sx = true := by rw [HOKR.out]; exact decide_eq_true ⟨by omega, k2', k3'⟩
                    have k4' : la < (ix : Int) := by omega
                    rw [hok, if_pos rfl] at HST
                    have hms : Mod w3 (((w3.setCell ⟨w1.heap.size, 0, none⟩ (.string q2.1)).setCell ⟨w1.heap.size, 1, none⟩ (.int .i64 q2.2)).alloc (.cells #[.string q2.1, .int .i64 q2.2] 94)) [w1.heap.size] := (((Mod.refl _ _).setCell (by simp) _).setCell (by simp) _).alloc _
                    have HAS := Lib.hid (HA3.out.mod hms (by simpa using hne1))
                    have HBS := Lib.hid (((HB3.out.set 0 (.string q2.1)).set 1 (.int .i64 q2.2)).alloc (.cells #[.string q2.1, .int .i64 q2.2] 94))
                    have HCS := Lib.hid (HC3.out.mod hms (by simp))
                    have HGE := Lib.hid (own_ge HO3.out)
                    have HOS := Lib.hid (own_mod HO3.out hms (fun j hj => by have := HGE.out j hj; simp; omega))
                    have HMZ := Lib.hid (HMS.out.alloc (.cells #[.string q2.1, .int .i64 q2.2] 94))
                    have HRS := Lib.hid (show rowsC (l ++ [((ix : Int), (sx : Int))]) = rowsC l ++ [.int .i64 (ix : Int), .int .i64 (sx : Int)] by rw [rowsC_append]; rfl)
                    clear hms HBD HOKR hok HLZ HMX a0 a1
                    go_wp2_with (at_builtin; refine hold ?_)
                    refine Lib.hid ?_
                    refine wpList_append_own _ rfl _ _ 55 rfl (w1.heap.size + 2) 108 i0 _ 2 16 Try.underlying55 hi0 hz0 hz1 hz2 rfl (by decide) _ (j + 1) _ rfl (HOS.out.alloc _) ⟨w3.heap.size + 1, 0, none⟩ 1 1 [.int .i64 (ix : Int), .int .i64 (sx : Int)] rfl rfl (two_at _ _ _ _ _ (by simp [World.setCell])) (by simp [Value.oneCell']) (by unfold maxLen; omega) (by omega) (by simp [World.setCell]; omega) ?_
                    intro v' w6 hown' hgrow hnil
                    clear hnil
                    obtain ⟨ra', rc', rfl⟩ := Rw.own_slice hown'
                    have HO1 := Lib.hid hown'
                    have HA6 := Lib.hid (Rw.blk_grown (HAS.out.alloc (.cells #[.int .i64 (ix : Int), .int .i64 (sx : Int)] 108)) hgrow (fun e => by have := HGE.out _ e.symm; omega))
                    have HB6 := Lib.hid (Rw.blk_grown (HBS.out.alloc (.cells #[.int .i64 (ix : Int), .int .i64 (sx : Int)] 108)) hgrow (fun e => by have := HGE.out _ e.symm; omega))
                    have HC6 := Lib.hid (Rw.blk_grown (HCS.out.alloc (.cells #[.int .i64 (ix : Int), .int .i64 (sx : Int)] 108)) hgrow (fun e => by have := HGE.out _ e.symm; omega))
                    have HM6 := Lib.hid ((HMZ.out.alloc (.cells #[.int .i64 (ix : Int), .int .i64 (sx : Int)] 108)).grown hgrow (fun j hj => .inr (by have := HGE.out j hj; omega)))
                    have d0 := HC6.out.cell 0
                    have d1 := HC6.out.free 0
                    clear hown' hgrow
                    go_wp2_with fail
                    go_roundw
                    case rel =>
                      have hms : Mod w6 (w6.setCell ⟨w1.heap.size + 1, 0, none⟩ (.slice ra' ((j + 1) + 1) rc')) [w1.heap.size + 1] := (Mod.refl _ _).setCell (by simp) _
                      refine ⟨(j + 1) + 1, l ++ [((ix : Int), (sx : Int))], q2, .slice ra' ((j + 1) + 1) rc', by omega, by go_num, HST, ?_, HA6.out.mod hms (by simp; omega), HB6.out.mod hms (by simp), ?_, ?_⟩
                      · exact HM6.out.setCell (.inr (by show w.heap.size ≤ w1.heap.size + 1; omega)) _
                      · have := HC6.out.set 0 (.slice ra' ((j + 1) + 1) rc')
                        simpa using this
                      · rw [HRS.out]
                        exact own_mod HO1.out hms (fun j hj => by have := own_ge HO1.out j hj; simp; omega)
                    case measure => first | (simp [intOf]; done) | (simp [intOf]; omega)
      · have hge : (n : Int) ≤ k := by omega
        have hkn : k = n := by omega
        have hE := HEND.out l q (by omega) (hkn ▸ HK.out)
        have hll := HO.out.len
        have EC := Lib.hid (fun w' => rend_calls q w')
        obtain ⟨va, vc, rfl⟩ := Rw.own_slice HOW.out
        go_wp2_with fail
        (with_reducible refine (EC.out _).mono ?_)
        rintro e w3 ⟨rfl, hm3⟩
        have HA3 := Lib.hid (HA.out.mod hm3 (by simp))
        have HC3 := Lib.hid (HC.out.mod hm3 (by simp))
        have HO3 := Lib.hid (own_mod HOW.out hm3 (by simp))
        have HM3 := Lib.hid (HM.out.trans0 hm3)
        have hA3 := HA3.out.lt
        have a0 := HA3.out.cell 0
        have a1 := HA3.out.free 0
        have c0 := HC3.out.cell 0
        by_cases he : endE q.1 q.2 = 0
        · rw [if_pos he] at hE
          have heb : (endE q.1 q.2 != 0) = false := by rw [he]; rfl
          have hms : Mod w3 (w3.setCell ⟨w.heap.size, 0, none⟩ (.slice va k vc)) [w.heap.size] := (Mod.refl _ _).setCell (by simp) _
          have HF : Hid (RefAt (w3.setCell ⟨w.heap.size, 0, none⟩ (.slice va k vc)) w.heap.size (.slice va k vc) l) := Lib.hid (by
            unfold RefAt
            rw [hll]
            exact own_base (own_mod HO3.out hms (fun j hj => by have := own_ge HO3.out j hj; simp; omega)) (by omega))
          have HMF := Lib.hid (HM3.out.setCell (p := ⟨w.heap.size, 0, none⟩) (.inr (Nat.le_refl _)) (.slice va k vc))
          clear he hms hkn hm3 HK
          go_wp2_with fail
          refine bodyPost_ret (v := .tuple #[.agg #[.slice va k vc], .int .i64 0]) (by simp [results, Try.results31, go_sem, a0, a1, hA3]) rfl (RReadP.good hE HMF.out HF.out)
        · rw [if_neg he] at hE
          have heb : (endE q.1 q.2 != 0) = true := by rw [bne_iff_ne]; exact he
          have HMF := Lib.hid (HM3.out.setCell (p := ⟨w.heap.size, 0, none⟩) (.inr (Nat.le_refl _)) (.slice none 0 0))
          clear he hkn hm3 HK
          go_wp2_with fail
          refine bodyPost_ret (v := .tuple #[.agg #[.slice none 0 0], .int .i64 3]) (by simp [results, Try.results31, go_sem, a0, a1, hA3]) rfl (RReadP.bad hE HMF.out)
end Go.Proofs.Ytcbafomhifdgpaa.Ss
end

section
/- Tables of sessions: what the reference's parts compute, plain. -/
namespace Go.Proofs.Ytcbafomhifdgpaa.Ss
open Go.RowKit Mem Si Bits
open Ke (numI numI_size St nx nv)
set_option linter.unusedSimpArgs false
set_option linter.unusedVariables false

/-- The reference's seq. -/
def seqF (l : List Sn) (id : Int) : Int := match l.find? (fun s => s.1 == id) with | some s => s.2 | none => -1
theorem seqF_at {l : List Sn} {id : Int} {i : Nat} (hi : i < l.length) (h : l[i].1 = id) (hb : ∀ t (ht : t < l.length), t < i → l[t].1 ≠ id) : seqF l id = l[i].2 := by
  have : l.find? (fun s => s.1 == id) = some l[i] := by
    rw [List.find?_eq_some_iff_append]
    refine ⟨by simpa using h, l.take i, l.drop (i + 1), ?_, fun a ha => ?_⟩
    · rw [← List.drop_eq_getElem_cons hi, List.take_append_drop]
    · obtain ⟨t, ht, rfl⟩ := List.getElem_of_mem ha
      rw [List.length_take] at ht
      rw [List.getElem_take]
      simpa using hb t (by omega) (by omega)
  unfold seqF
  rw [this]
theorem seqF_none {l : List Sn} {id : Int} (hb : ∀ t (ht : t < l.length), l[t].1 ≠ id) : seqF l id = -1 := by
  have : l.find? (fun s => s.1 == id) = none := by
    rw [List.find?_eq_none]
    intro s hs
    obtain ⟨t, ht, rfl⟩ := List.getElem_of_mem hs
    simpa using hb t ht
  unfold seqF
  rw [this]
theorem seqF_has {l : List Sn} (hu : Up l) {id : Int} (h : has l id = true) : seqF l id = sq l id := by
  obtain ⟨hp, he⟩ := has_pos hu h
  unfold sq
  rw [List.getD_eq_getElem?_getD, List.getElem?_eq_getElem hp]
  exact seqF_at hp he (fun t ht htp => by have := hu t _ ht hp htp; omega)
theorem seqF_not {l : List Sn} {id : Int} (h : has l id = false) : seqF l id = -1 := seqF_none (fun t ht => has_not h _ (List.getElem_mem ht))

/-- The reference's without. -/
def woL (l : List Sn) (id : Int) : List Sn := l.filter (fun s => s.1 != id)
/-- One step of the reference's with. -/
def wS (s : Sn) (a : List Sn × Bool) (x : Sn) : List Sn × Bool := if !a.2 && decide (s.1 < x.1) then (a.1 ++ [s] ++ [x], true) else (a.1 ++ [x], a.2)
def wK (l : List Sn) (s : Sn) (k : Nat) : List Sn × Bool := (l.take k).foldl (wS s) ([], false)
def withL (l : List Sn) (s : Sn) : List Sn := if (wK l s l.length).2 = true then (wK l s l.length).1 else (wK l s l.length).1 ++ [s]
theorem wK_succ (l : List Sn) (s : Sn) (k : Nat) (hk : k < l.length) : wK l s (k + 1) = wS s (wK l s k) l[k] := by
  unfold wK
  rw [List.take_succ_eq_append_getElem hk, List.foldl_append]; rfl
theorem wK_len (l : List Sn) (s : Sn) : ∀ k, k ≤ l.length → (wK l s k).1.length = k + (if (wK l s k).2 = true then 1 else 0)
  | 0, _ => rfl
  | k + 1, hk => by
    have ih := wK_len l s k (by omega)
    rw [wK_succ l s k (by omega)]
    unfold wS
    cases h2 : (wK l s k).2 with
    | true => rw [h2] at ih; simp at ih ⊢; omega
    | false =>
      rw [h2] at ih
      by_cases h3 : s.1 < (l[k]'(by omega)).1
      · simp [h3] at ih ⊢; omega
      · simp [h3] at ih ⊢; omega
theorem fold_lo (s : Sn) : ∀ (m acc : List Sn), (∀ x ∈ m, x.1 < s.1) → m.foldl (wS s) (acc, false) = (acc ++ m, false)
  | [], acc, _ => by simp
  | x :: m, acc, h => by
    have hx := h x (by simp)
    rw [List.foldl_cons]
    have e : wS s (acc, false) x = (acc ++ [x], false) := by unfold wS; rw [if_neg (by simp; omega)]
    rw [e, fold_lo s m (acc ++ [x]) (fun y hy => h y (by simp [hy]))]
    simp
theorem fold_hi (s : Sn) : ∀ (m acc : List Sn), m.foldl (wS s) (acc, true) = (acc ++ m, true)
  | [], acc => by simp
  | x :: m, acc => by
    rw [List.foldl_cons]
    have e : wS s (acc, true) x = (acc ++ [x], true) := by unfold wS; rw [if_neg (by simp)]
    rw [e, fold_hi s m (acc ++ [x])]
    simp
theorem with_ins {l : List Sn} {s : Sn} (hu : Up l) (h : has l s.1 = false) : withL l s = insL l s := by
  obtain ⟨h1, h2⟩ := pos_lt hu s.1
  have hn := has_not h
  have hk : wK l s l.length = (l.drop (pos l s.1)).foldl (wS s) (l.take (pos l s.1), false) := by
    unfold wK
    rw [List.take_length]
    conv => lhs; rw [← List.take_append_drop (pos l s.1) l, List.foldl_append, fold_lo s _ _ h1]
    rfl
  unfold withL
  rw [hk]
  unfold insL
  cases hd : l.drop (pos l s.1) with
  | nil => simp
  | cons x r =>
    have hx := h2 x (by rw [hd]; simp)
    have hx2 := hn x (List.mem_of_mem_drop (by rw [hd]; simp))
    rw [List.foldl_cons]
    have e : wS s (l.take (pos l s.1), false) x = (l.take (pos l s.1) ++ [s] ++ [x], true) := by unfold wS; rw [if_pos (by simp; omega)]
    rw [e, fold_hi]
    simp
theorem wo_del {l : List Sn} (hu : Up l) {id : Int} (h : has l id = true) : woL l id = delL l id := by
  obtain ⟨hp, he⟩ := has_pos hu h
  obtain ⟨h1, h2⟩ := pos_lt hu id
  have hc : l.drop (pos l id) = l[pos l id] :: l.drop (pos l id + 1) := List.drop_eq_getElem_cons hp
  have hp2 := up_pair.1 hu
  have hp3 : (l.drop (pos l id)).Pairwise (fun a b => a.1 < b.1) := List.Pairwise.sublist (List.drop_sublist _ _) hp2
  rw [hc, List.pairwise_cons] at hp3
  unfold woL delL
  conv => lhs; rw [← List.take_append_drop (pos l id) l, hc]
  rw [List.filter_append, List.filter_cons, if_neg (by simpa using he)]
  congr 1
  · rw [List.filter_eq_self]
    intro x hx
    have := h1 x hx
    simp; omega
  · rw [List.filter_eq_self]
    intro x hx
    have := hp3.1 x hx
    rw [he] at this
    simp; omega
theorem with_take {l : List Sn} (hu : Up l) {id seq : Int} (h : has l id = true) : withL (woL l id) (id, seq) = l.set (pos l id) (id, seq) := by
  obtain ⟨hp, he⟩ := has_pos hu h
  obtain ⟨h1, h2⟩ := pos_lt hu id
  have hc : l.drop (pos l id) = l[pos l id] :: l.drop (pos l id + 1) := List.drop_eq_getElem_cons hp
  have hp2 := up_pair.1 hu
  have hp3 : (l.drop (pos l id)).Pairwise (fun a b => a.1 < b.1) := List.Pairwise.sublist (List.drop_sublist _ _) hp2
  rw [hc, List.pairwise_cons] at hp3
  have hnot : has (woL l id) id = false := by
    unfold has woL
    rw [List.any_eq_false]
    intro s hs
    have := (List.mem_filter.1 hs).2
    simp at this ⊢
    exact this
  have hud : Up (woL l id) := up_sub hu List.filter_sublist
  rw [with_ins hud hnot, wo_del hu h]
  have hpos : pos (delL l id) id = pos l id := by
    have e1 : (l.take (pos l id)).countP (fun s => decide (s.1 < id)) = (l.take (pos l id)).length := by
      rw [List.countP_eq_length]
      intro x hx; exact decide_eq_true (h1 x hx)
    have e2 : (l.drop (pos l id + 1)).countP (fun s => decide (s.1 < id)) = 0 := by
      rw [List.countP_eq_zero]
      intro x hx
      have := hp3.1 x hx
      rw [he] at this
      simp; omega
    have e3 : pos (delL l id) id = (l.take (pos l id) ++ l.drop (pos l id + 1)).countP (fun s => decide (s.1 < id)) := rfl
    rw [e3, List.countP_append, e1, e2, List.length_take]; omega
  have hlt : (l.take (pos l id)).length = pos l id := by rw [List.length_take]; omega
  unfold insL
  show List.take (pos (delL l id) id) _ ++ _ ++ List.drop (pos (delL l id) id) _ = _
  rw [hpos]
  unfold delL
  rw [List.take_left' hlt, List.drop_left' hlt, List.set_eq_take_append_cons_drop, if_pos hp]
  simp

/-! The reference's Open, Take, Close. -/
def rOpen (l : List Sn) (id : Int) : List Sn × Int := if id < 1 ∨ 549755813888 < id then (l, 1) else if 0 ≤ seqF l id then (l, 9) else if 32 ≤ l.length then (l, 7) else (withL l (id, 0), 0)
def rTake (l : List Sn) (id seq : Int) : List Sn × Bool × Int := if seqF l id < 0 then (l, false, 4) else if seq < 1 ∨ 549755813888 < seq then (l, false, 1) else if seq ≤ seqF l id then (l, false, 0) else if seqF l id + 1 < seq then (l, false, 170) else (withL (woL l id) (id, seq), true, 0)
def rClose (l : List Sn) (id : Int) : List Sn × Int := if seqF l id < 0 then (l, 4) else (woL l id, 0)
theorem sq_nn {l : List Sn} (hg : Good l) {id : Int} (h : has l id = true) : 0 ≤ sq l id := by
  obtain ⟨hp, he⟩ := has_pos hg.up h
  unfold sq
  rw [List.getD_eq_getElem?_getD, List.getElem?_eq_getElem hp]
  exact (hg.rg _ (List.getElem_mem hp)).2.1
theorem rOpen_eq {l : List Sn} (hg : Good l) (id : Int) : rOpen l id = openL l id := by
  unfold rOpen openL
  by_cases hb : id < 1 ∨ 549755813888 < id
  · have hnb : numB id = false := by unfold numB; exact decide_eq_false (by omega)
    rw [if_pos hb, hnb, if_pos rfl]
  · have hnb : numB id = true := by unfold numB; exact decide_eq_true (by omega)
    rw [if_neg hb, hnb, if_neg (show ¬(true = false) by simp)]
    cases hh : has l id with
    | true => rw [seqF_has hg.up hh, if_pos (sq_nn hg hh), if_pos rfl]
    | false =>
      rw [seqF_not hh, if_neg (by omega), if_neg (show ¬(false = true) by simp)]
      by_cases h32 : 32 ≤ l.length
      · rw [if_pos h32, if_pos h32]
      · rw [if_neg h32, if_neg h32, with_ins hg.up (by exact hh)]
theorem rTake_eq {l : List Sn} (hg : Good l) (id seq : Int) : rTake l id seq = (takeL l id seq, (mayL l id seq).1, (mayL l id seq).2) := by
  unfold rTake takeL mayL
  cases hh : has l id with
  | false => rw [seqF_not hh, if_pos (by omega), if_pos rfl]; rfl
  | true =>
    have hn := sq_nn hg hh
    rw [seqF_has hg.up hh, if_neg (show ¬(sq l id < 0) by omega), if_neg (show ¬(true = false) by simp)]
    by_cases hb : seq < 1 ∨ 549755813888 < seq
    · have hnb : numB seq = false := by unfold numB; exact decide_eq_false (by omega)
      rw [if_pos hb, hnb, if_pos rfl]; rfl
    · have hnb : numB seq = true := by unfold numB; exact decide_eq_true (by omega)
      rw [if_neg hb, hnb, if_neg (show ¬(true = false) by simp)]
      by_cases h1 : seq ≤ sq l id
      · have e : (if sq l id < seq - 1 then ((false, 170) : Bool × Int) else (decide (sq l id < seq), 0)) = (false, 0) := by rw [if_neg (by omega), decide_eq_false (by omega)]
        rw [if_pos h1, e]; rfl
      · rw [if_neg h1]
        by_cases h2 : sq l id + 1 < seq
        · have e : (if sq l id < seq - 1 then ((false, 170) : Bool × Int) else (decide (sq l id < seq), 0)) = (false, 170) := by rw [if_pos (by omega)]
          rw [if_pos h2, e]; rfl
        · have e : (if sq l id < seq - 1 then ((false, 170) : Bool × Int) else (decide (sq l id < seq), 0)) = (true, 0) := by rw [if_neg (by omega), decide_eq_true (by omega)]
          rw [if_neg h2, e, with_take hg.up hh]; rfl
theorem rClose_eq {l : List Sn} (hg : Good l) (id : Int) : rClose l id = closeL l id := by
  unfold rClose closeL
  cases hh : has l id with
  | false => rw [seqF_not hh, if_pos (by omega), if_pos rfl]
  | true => rw [seqF_has hg.up hh, if_neg (by have := sq_nn hg hh; omega), if_neg (by simp), wo_del hg.up hh]

/-! What is written is read. -/
theorem rdK_back (l : List Sn) (hg : Good l) (r : ByteArray) : ∀ k, k ≤ l.length → rdK (Ke.cat (l.map rowT) ++ r, 0) k = some (l.take k, (Ke.cat ((l.drop k).map rowT) ++ r, 0))
  | 0, _ => by show some (([] : List Sn), (Ke.cat (l.map rowT) ++ r, (0 : Int))) = _; rw [List.drop_zero, List.take_zero]
  | k + 1, hk => by
    have ih := rdK_back l hg r k (by omega)
    have hk' : k < l.length := by omega
    have hd : l.drop k = l[k] :: l.drop (k + 1) := List.drop_eq_getElem_cons hk'
    have hx := hg.rg l[k] (List.getElem_mem hk')
    have hc : Ke.cat ((l.drop k).map rowT) ++ r = numI l[k].1 ++ (numI l[k].2 ++ (Ke.cat ((l.drop (k + 1)).map rowT) ++ r)) := by
      rw [hd]
      show rowT l[k] ++ Ke.cat ((l.drop (k + 1)).map rowT) ++ r = _
      unfold rowT
      simp only [ByteArray.append_assoc]
    rw [hc] at ih
    obtain ⟨a1, a2⟩ := Ke.int_nx l[k].1 (by omega) (by omega) (numI l[k].2 ++ (Ke.cat ((l.drop (k + 1)).map rowT) ++ r))
    obtain ⟨b1, b2⟩ := Ke.int_nx l[k].2 (by omega) (by omega) (Ke.cat ((l.drop (k + 1)).map rowT) ++ r)
    rw [rdK_step ih, a1, a2, b1, b2, Int.toNat_of_nonneg (show 0 ≤ l[k].1 by omega), Int.toNat_of_nonneg hx.2.1]
    have hla : lastI (l.take k) < l[k].1 := by
      unfold lastI
      cases hl : (l.take k).getLast? with
      | none => show (0 : Int) < _; omega
      | some s =>
        have hm := List.mem_of_getLast? hl
        obtain ⟨t, ht, rfl⟩ := List.getElem_of_mem hm
        rw [List.length_take] at ht
        rw [List.getElem_take]
        exact hg.up t k (by omega) hk' (by omega)
    rw [if_pos (by unfold okR; exact decide_eq_true ⟨hla, hx.1.2, hx.2.2⟩), List.take_succ_eq_append_getElem hk']
theorem read_back {l : List Sn} (hg : Good l) : readT (txt l) = some l := by
  have hl := hg.len
  obtain ⟨a1, a2⟩ := Ke.int_nx (l.length : Int) (by omega) (by omega) (Ke.cat (l.map rowT))
  have a1' : nv (numI (l.length : Int) ++ Ke.cat (l.map rowT), 0) = l.length := by omega
  have hb := rdK_back l hg ⟨#[]⟩ l.length (Nat.le_refl _)
  rw [Ke.app_nil, Ke.app_nil, List.drop_length, List.take_length] at hb
  unfold readT
  rw [txt_cat, a1', if_neg (by omega), a2, hb]
  rfl
end Go.Proofs.Ytcbafomhifdgpaa.Ss
end

section
/- Tables of sessions: the reference's seq, without and with. -/
namespace Go.Proofs.Ytcbafomhifdgpaa.Ss
open Go.RowKit Mem Si Bits
set_option linter.unusedSimpArgs false
set_option linter.unusedVariables false
set_option maxRecDepth 100000

theorem RefAt.base {w : World} {b b' : Nat} {v : Value} {l : List Sn} (h : RefAt w b v l) (hb : b' ≤ b) : RefAt w b' v l := own_base h hb
theorem RefAt.cells {w : World} {b : Nat} {v : Value} {l : List Sn} (h : RefAt w b v l) (i : Nat) (hi : i < l.length) : ∃ g cap, v = .slice (some ⟨g, 0, none⟩) l.length cap ∧ g < w.heap.size ∧ w.cell? ⟨g, i * 2, none⟩ = some (.int .i64 l[i].1) ∧ w.cell? ⟨g, i * 2 + 1, none⟩ = some (.int .i64 l[i].2) := by
  rcases h.shape with ⟨_, h0⟩ | ⟨g, cap, hv, _, _, _, h4⟩
  · rw [h0] at hi; simp at hi
  · obtain ⟨h5, h6⟩ := h4 i hi
    exact ⟨g, cap, hv, Rw.cell_lt h5, h5, h6⟩

set_option maxHeartbeats 1000000 in
theorem seq_calls (b : Nat) (v : Value) (l : List Sn) (id : Int) (w : World) (h : RefAt w b v l) (hn : l.length ≤ 1000) :
    Calls Try.prog 59 #[.agg #[v], .int .i64 id] w fun e w' => e = .returned (.int .i64 (seqF l id)) ∧ Mod w w' [] := by
  have HR := Lib.hid h
  obtain ⟨a, c, rfl⟩ := Rw.own_slice h
  have HM0 := Lib.hid ((Mod.refl w []).alloc (.cells #[.slice a l.length c] 64))
  have HB0 := Lib.hid (Blk.new w #[.slice a l.length c] 64)
  have hn' : (l.length : Int) ≤ 1000 := by omega
  clear h
  go_enter Try.func59, Try.ntmps59
  go_wp2_with fail
  generalize w.alloc _ = W at HM0 HB0 ⊢
  go_loopw [5] (fun vi wr => ∃ i : Nat, i ≤ l.length ∧ vi = .int .i64 (i : Int) ∧ Mod W wr [] ∧ Hid (∀ t (ht : t < l.length), t < i → l[t].1 ≠ id)) (fun vi _ => l.length + 1 - (intOf vi).toNat)
  case atStart => exact ⟨0, Nat.zero_le _, rfl, Mod.refl _ _, Lib.hid (fun t _ h => by omega)⟩
  case round =>
    obtain ⟨i, hi, rfl, hm, HJ⟩ := hrel
    have HM := Lib.hid (HM0.out.trans0 hm)
    have HMW := Lib.hid hm
    have c0 := (HB0.out.mod hm (by simp)).cell 0
    clear hm
    by_cases hlt : i < l.length
    · have hlt' : (i : Int) < l.length := by omega
      obtain ⟨g, cap, hv, hg, d0, d1⟩ := HR.out.cells i hlt
      have e0 := keepC HM.out d0
      have e1 := keepC HM.out d1
      injection hv with q1 q2 q3
      subst q1 q3
      have HF : Hid (l[i].1 = id → seqF l id = l[i].2) := Lib.hid (fun h => seqF_at hlt h HJ.out)
      have HX : Hid (l[i].1 ≠ id → ∀ t (ht : t < l.length), t < i + 1 → l[t].1 ≠ id) := Lib.hid (fun h t ht hti => by
        by_cases e : t = i
        · subst e; exact h
        · exact HJ.out t ht (by omega))
      clear d0 d1 q2 HJ HR
      generalize l[i] = x at *
      obtain ⟨x1, x2⟩ := x
      simp only at e0 e1
      by_cases hx : x1 = id
      · have hF := HF.out hx
        subst hx
        have HFF := Lib.hid hF.symm
        clear hF HX HF
        go_wp2_with fail
        go_ret
        exact ⟨errno_ret HFF.out, HM.out⟩
      · have HXX := Lib.hid (HX.out hx)
        clear HF HX
        go_wp2_with fail
        go_roundw
        case rel => exact ⟨i + 1, by omega, by go_num, HMW.out, HXX⟩
        case measure => simp [intOf]; omega
    · have hge : (l.length : Int) ≤ i := by omega
      have hF := seqF_none (fun t ht => HJ.out t ht (by omega))
      have HFF := Lib.hid hF.symm
      clear hF
      go_wp2_with fail
      go_ret
      exact ⟨errno_ret HFF.out, HM.out⟩

set_option maxHeartbeats 2000000 in
theorem without_calls (b : Nat) (v : Value) (l : List Sn) (id : Int) (w : World) (h : RefAt w b v l) (hn : l.length ≤ 1000) :
    Calls Try.prog 61 #[.agg #[v], .int .i64 id] w fun e w' => ∃ v', e = .returned (.agg #[v']) ∧ Mod w w' [] ∧ RefAt w' w.heap.size v' (woL l id) := by
  obtain ⟨i0, hi0, hz0, hz1, hz2⟩ := info_parts info_ref
  have HR := Lib.hid h
  obtain ⟨a, c, rfl⟩ := Rw.own_slice h
  have HM0 := Lib.hid (((Mod.refl w []).alloc (.cells #[.slice a l.length c] 64)).alloc (.cells #[.slice none 0 0] 64))
  have HB0 := Lib.hid ((Blk.new w #[.slice a l.length c] 64).alloc (.cells #[.slice none 0 0] 64))
  have hc0 := Blk.new (w.alloc (.cells #[.slice a l.length c] 64)) #[.slice none 0 0] 64
  rw [World.size_alloc] at hc0
  have HC0 := Lib.hid hc0
  have hn' : (l.length : Int) ≤ 1000 := by omega
  clear h hc0
  go_enter Try.func61, Try.ntmps61
  have HWZ : Hid (((w.alloc (.cells #[.slice a l.length c] 64)).alloc (.cells #[.slice none 0 0] 64)).heap.size = w.heap.size + 2) := Lib.hid (by rw [World.size_alloc, World.size_alloc])
  go_wp2_with fail
  generalize (w.alloc _).alloc _ = W at HM0 HB0 HC0 HWZ ⊢
  go_loopw [5, 6] (fun vl vi wr => ∃ (i k : Nat) (ga : Option Addr) (gc : Nat), i ≤ l.length ∧ vl = .slice ga k gc ∧ vi = .int .i64 (i : Int) ∧ Mod W wr [] ∧ k = (woL (l.take i) id).length ∧ wr.ownsRow (w.heap.size + 2) 108 2 (.slice ga k gc) k (rowsC (woL (l.take i) id))) (fun _ vi _ => l.length + 1 - (intOf vi).toNat)
  case atStart => exact ⟨0, 0, none, 0, Nat.zero_le _, rfl, rfl, Mod.refl _ _, rfl, World.ownsRow_nil _ _ _ _⟩
  case round =>
    obtain ⟨i, k, ga, gc, hi, rfl, rfl, hm, hk, hown⟩ := hrel
    have hkl : k ≤ i := by
      rw [hk]; unfold woL
      exact Nat.le_trans (List.length_filter_le _ _) (by rw [List.length_take]; omega)
    have HM := Lib.hid (HM0.out.trans0 hm)
    have HMW := Lib.hid hm
    have HO := Lib.hid hown
    have HB := Lib.hid (HB0.out.mod hm (by simp))
    have HC := Lib.hid (HC0.out.mod hm (by simp))
    have hlc := HC.out.lt
    have c0 := HB.out.cell 0
    have f0 := HC.out.cell 0
    have f1 := HC.out.free 0
    have HK := Lib.hid hk
    clear hm hown hk
    by_cases hlt : i < l.length
    · have hlt' : (i : Int) < l.length := by omega
      obtain ⟨g, cap, hv, hg, d0, d1⟩ := HR.out.cells i hlt
      have e0 := keepC HM.out d0
      have e1 := keepC HM.out d1
      injection hv with q1 q2 q3
      subst q1 q3
      have HS : Hid (woL (l.take (i + 1)) id = woL (l.take i) id ++ woL [l[i]] id) := Lib.hid (by
        unfold woL; rw [List.take_succ_eq_append_getElem hlt, List.filter_append])
      clear d0 d1 q2 HR
      generalize l[i] = x at *
      obtain ⟨x1, x2⟩ := x
      simp only at e0 e1
      by_cases hx : x1 = id
      · have HSS : Hid (woL (l.take (i + 1)) id = woL (l.take i) id) := Lib.hid (by
          rw [HS.out]; unfold woL; rw [List.filter_cons, if_neg (by simpa using hx)]; simp)
        have hxb : (x1 != id) = false := by simpa using hx
        clear HS hx
        go_wp2_with fail
        go_roundw
        case rel => exact ⟨i + 1, k, ga, gc, by omega, rfl, by go_num, HMW.out, by rw [HSS.out]; exact HK.out, by rw [HSS.out]; exact HO.out⟩
        case measure => simp [intOf]; omega
      · have HSS : Hid (woL (l.take (i + 1)) id = woL (l.take i) id ++ [(x1, x2)]) := Lib.hid (by
          rw [HS.out]; conv => lhs; rhs; unfold woL
          rw [List.filter_cons, if_pos (by simpa using hx)]; rfl)
        have HRS : Hid (rowsC (woL (l.take (i + 1)) id) = rowsC (woL (l.take i) id) ++ [.int .i64 x1, .int .i64 x2]) := Lib.hid (by rw [HSS.out, rowsC_append]; rfl)
        have hxb : (x1 != id) = true := by simpa using hx
        have H2C := Lib.hid (two_cells (Blk.new wr #[.int .i64 x1, .int .i64 x2] 108))
        clear HS hx
        generalize hys : rowsC (woL (l.take i) id) = ys at *
        go_wp2_with (at_builtin; refine wpList_append_own _ rfl _ _ 55 rfl (w.heap.size + 2) 108 i0 _ 2 16 Try.underlying55 hi0 hz0 hz1 hz2 rfl (by decide) _ _ _ rfl (HO.out.alloc _) ⟨wr.heap.size, 0, none⟩ 1 1 [.int .i64 x1, .int .i64 x2] rfl rfl H2C.out (by simp [Value.oneCell']) (by unfold maxLen; omega) (by omega) (by have := HM.out.size; simp; omega) ?_; intro v' w1 hown' hgrow hnil; clear hnil; have HO1 := Lib.hid hown'; have HG1 := Lib.hid hgrow; clear hown' hgrow; obtain ⟨ga', gc', rfl⟩ := Rw.own_slice HO1.out)
        go_roundw
        case rel =>
          refine ⟨i + 1, k + 1, ga', gc', by omega, rfl, by go_num, (HMW.out.alloc _).grown HG1.out (fun j hj => .inr ?_), by rw [HSS.out, List.length_append, ← HK.out]; rfl, ?_⟩
          · have := own_ge HO.out j hj
            have := HWZ.out
            omega
          · rw [HRS.out]; exact HO1.out
        case measure => simp [intOf]; omega
    · have hge : (l.length : Int) ≤ i := by omega
      have hii : i = l.length := by omega
      have hms : Mod wr (wr.setCell ⟨w.heap.size + 1, 0, none⟩ (.slice ga k gc)) [w.heap.size + 1] := (Mod.refl _ _).setCell (by simp) _
      have HF : Hid (RefAt (wr.setCell ⟨w.heap.size + 1, 0, none⟩ (.slice ga k gc)) w.heap.size (.slice ga k gc) (woL l id)) := Lib.hid (by
        have h1 := HO.out
        have h2 := HK.out
        rw [hii, List.take_length] at h1 h2
        unfold RefAt
        rw [← h2]
        exact own_base (own_mod h1 hms (fun j hj => by have := own_ge h1 j hj; simp; omega)) (by omega))
      have HMF := Lib.hid (HM.out.setCell (p := ⟨w.heap.size + 1, 0, none⟩) (.inr (by show w.heap.size ≤ w.heap.size + 1; omega)) (.slice ga k gc))
      clear hms
      go_wp2_with fail
      refine bodyPost_ret (v := .agg #[.slice ga k gc]) (by simp [results, Try.results61, go_sem, f0, f1, hlc]) rfl ⟨_, rfl, HMF.out, HF.out⟩
end Go.Proofs.Ytcbafomhifdgpaa.Ss
end

section
/- Tables of sessions: the reference's with. (Printed by mkSsL.py.) -/
namespace Go.Proofs.Ytcbafomhifdgpaa.Ss
open Go.RowKit Mem Si Bits
set_option linter.unusedSimpArgs false
set_option linter.unusedVariables false
set_option maxRecDepth 100000

theorem wS_in (s x : Sn) (a : List Sn) : wS s (a, true) x = (a ++ [x], true) := by unfold wS; rw [if_neg (by simp)]
theorem wS_put (s x : Sn) (a : List Sn) (h : s.1 < x.1) : wS s (a, false) x = (a ++ [s] ++ [x], true) := by unfold wS; rw [if_pos (by simpa using h)]
theorem wS_out (s x : Sn) (a : List Sn) (h : ¬ s.1 < x.1) : wS s (a, false) x = (a ++ [x], false) := by unfold wS; rw [if_neg (by simpa using h)]
theorem withL_of {l : List Sn} {s : Sn} {a : List Sn} {b : Bool} (h : wK l s l.length = (a, b)) : withL l s = if b = true then a else a ++ [s] := by unfold withL; rw [h]

set_option maxHeartbeats 4000000 in
theorem with_calls (b : Nat) (v : Value) (l : List Sn) (s1 s2 : Int) (w : World) (h : RefAt w b v l) (hn : l.length ≤ 1000) :
    Calls Try.prog 60 #[.agg #[v], .agg #[.int .i64 s1, .int .i64 s2]] w fun e w' => ∃ v', e = .returned (.agg #[v']) ∧ Mod w w' [] ∧ RefAt w' w.heap.size v' (withL l (s1, s2)) := by
  obtain ⟨i0, hi0, hz0, hz1, hz2⟩ := info_parts info_ref
  have HR := Lib.hid h
  obtain ⟨a, c, rfl⟩ := Rw.own_slice h
  have HM0 := Lib.hid ((((Mod.refl w []).alloc (.cells #[.slice a l.length c] 64)).alloc (.cells #[.int .i64 s1, .int .i64 s2] 108)).alloc (.cells #[.slice none 0 0] 64))
  have HB0 := Lib.hid (((Blk.new w #[.slice a l.length c] 64).alloc (.cells #[.int .i64 s1, .int .i64 s2] 108)).alloc (.cells #[.slice none 0 0] 64))
  have hd0 := (Blk.new (w.alloc (.cells #[.slice a l.length c] 64)) #[.int .i64 s1, .int .i64 s2] 108).alloc (.cells #[.slice none 0 0] 64)
  have hc0 := Blk.new ((w.alloc (.cells #[.slice a l.length c] 64)).alloc (.cells #[.int .i64 s1, .int .i64 s2] 108)) #[.slice none 0 0] 64
  rw [World.size_alloc] at hd0
  rw [World.size_alloc, World.size_alloc] at hc0
  have HC0 := Lib.hid hc0
  have HD0 := Lib.hid hd0
  have HWZ : Hid ((((w.alloc (.cells #[.slice a l.length c] 64)).alloc (.cells #[.int .i64 s1, .int .i64 s2] 108)).alloc (.cells #[.slice none 0 0] 64)).heap.size = w.heap.size + 3) := Lib.hid (by rw [World.size_alloc, World.size_alloc, World.size_alloc])
  have hn' : (l.length : Int) ≤ 1000 := by omega
  clear h hc0 hd0
  go_enter Try.func60, Try.ntmps60
  go_wp2_with fail
  generalize ((w.alloc _).alloc _).alloc _ = W at HM0 HB0 HC0 HD0 HWZ ⊢
  go_loopw [5, 6, 7] (fun vl vin vi wr => ∃ (i k : Nat) (ga : Option Addr) (gc : Nat) (inb : Bool) (acc : List Sn), i ≤ l.length ∧ vl = .slice ga k gc ∧ vin = .bool inb ∧ vi = .int .i64 (i : Int) ∧ Mod W wr [] ∧ k = acc.length ∧ k ≤ i + 1 ∧ Hid (k = i + cond inb 1 0) ∧ Hid (wK l (s1, s2) i = (acc, inb)) ∧ wr.ownsRow (w.heap.size + 3) 108 2 (.slice ga k gc) k (rowsC acc)) (fun _ _ vi _ => l.length + 1 - (intOf vi).toNat)
  case atStart => exact ⟨0, 0, none, 0, false, [], Nat.zero_le _, rfl, rfl, rfl, Mod.refl _ _, rfl, by omega, Lib.hid rfl, Lib.hid rfl, World.ownsRow_nil _ _ _ _⟩
  case round =>
    obtain ⟨i, k, ga, gc, inb, acc, hi, rfl, rfl, rfl, hm, hk, hki, hkc, HK, hown⟩ := hrel
    have HM := Lib.hid (HM0.out.trans0 hm)
    have HMW := Lib.hid hm
    have HO := Lib.hid hown
    have hlc := (HC0.out.mod hm (by simp)).lt
    have HKL := Lib.hid hk
    clear hm hown hk
    by_cases hlt : i < l.length
    · have hlt' : (i : Int) < l.length := by omega
      obtain ⟨g, cap, hv, hg, d0, d1⟩ := HR.out.cells i hlt
      have HS := Lib.hid (wK_succ l (s1, s2) i hlt)
      rw [HK.out] at HS
      injection hv with q1 q2 q3
      subst q1 q3
      have HF : Hid (∀ x, Mod W x [] → x.cell? ⟨w.heap.size, 0, none⟩ = some (.slice (some ⟨g, 0, none⟩) l.length c) ∧ x.cell? ⟨w.heap.size + 1, 0, none⟩ = some (.int .i64 s1) ∧ x.cell? ⟨w.heap.size + 1, 1, none⟩ = some (.int .i64 s2) ∧ x.cell? ⟨g, i * 2, none⟩ = some (.int .i64 l[i].1) ∧ x.cell? ⟨g, i * 2 + 1, none⟩ = some (.int .i64 l[i].2)) := Lib.hid (fun x hx =>
        ⟨(HB0.out.mod hx (by simp)).cell 0, (HD0.out.mod hx (by simp)).cell 0, (HD0.out.mod hx (by simp)).cell 1, keepC (HM0.out.trans0 hx) d0, keepC (HM0.out.trans0 hx) d1⟩)
      have hgl := HMW.out.size
      have hgl0 := HM0.out.size
      obtain ⟨c0, t0, t1, e0, e1⟩ := HF.out wr HMW.out
      clear d0 d1 q2 HR HK
      generalize l[i] = x at *
      obtain ⟨x1, x2⟩ := x
      simp only at e0 e1
      cases inb with
      | true =>
        have HN : Hid (wK l (s1, s2) (i + 1) = (acc ++ [(x1, x2)], true)) := Lib.hid (by rw [HS.out, wS_in])
        clear HS
        go_wp2_with fail
        refine Fx.wp_region_f [] (fun _ w' => Mod wr w' []) (by kernel_rfl) (by decide) (Mod.refl _ _).drew ?_
        have hSS : ∀ (m' : Nat) w', Mod wr w' [] → _ := fun m' w' h => (⟨keepC h c0, keepC h t0, keepC h e0⟩ : _ ∧ _ ∧ _)
        refine Fx.take (i := 0) (v := ?_) _ rfl (by kernel_rfl) (by kernel_rfl) (by rfl) hSS ?_ ?_
        rotate_left
        · (intro w' hSw; (try dsimp only at hSw); go_simp; first | done | with_reducible rfl)
        try simp only [List.getElem_toArray, List.getElem_cons_succ, List.getElem_cons_zero, Act.put, List.setIfInBounds_toArray, List.set_cons_zero, List.set_cons_succ]
        refine Fx.take (i := 1) (v := ?_) _ rfl (by kernel_rfl) (by kernel_rfl) (by rfl) hSS ?_ ?_
        rotate_left
        · (intro w' hSw; (try dsimp only at hSw); go_simp; first | done | with_reducible rfl)
        try simp only [List.getElem_toArray, List.getElem_cons_succ, List.getElem_cons_zero, Act.put, List.setIfInBounds_toArray, List.set_cons_zero, List.set_cons_succ]
        refine Fx.take (i := 2) (v := ?_) _ rfl (by kernel_rfl) (by kernel_rfl) (by rfl) hSS ?_ ?_
        rotate_left
        · (intro w' hSw; (try dsimp only at hSw); go_simp; first | done | with_reducible rfl)
        try simp only [List.getElem_toArray, List.getElem_cons_succ, List.getElem_cons_zero, Act.put, List.setIfInBounds_toArray, List.set_cons_zero, List.set_cons_succ]
        refine Fx.skip (i := 3) rfl (by kernel_rfl) (by kernel_rfl) (by rfl) ?_
        try simp only [List.getElem_toArray, List.getElem_cons_succ, List.getElem_cons_zero, Act.put, List.setIfInBounds_toArray, List.set_cons_zero, List.set_cons_succ]
        refine Fx.skip (i := 4) rfl (by kernel_rfl) (by kernel_rfl) (by rfl) ?_
        try simp only [List.getElem_toArray, List.getElem_cons_succ, List.getElem_cons_zero, Act.put, List.setIfInBounds_toArray, List.set_cons_zero, List.set_cons_succ]
        refine Fx.skip (i := 5) rfl (by kernel_rfl) (by kernel_rfl) (by rfl) ?_
        try simp only [List.getElem_toArray, List.getElem_cons_succ, List.getElem_cons_zero, Act.put, List.setIfInBounds_toArray, List.set_cons_zero, List.set_cons_succ]
        refine Fx.skip (i := 6) rfl (by kernel_rfl) (by kernel_rfl) (by rfl) ?_
        try simp only [List.getElem_toArray, List.getElem_cons_succ, List.getElem_cons_zero, Act.put, List.setIfInBounds_toArray, List.set_cons_zero, List.set_cons_succ]
        refine Fx.skip (i := 7) rfl (by kernel_rfl) (by kernel_rfl) (by rfl) ?_
        try simp only [List.getElem_toArray, List.getElem_cons_succ, List.getElem_cons_zero, Act.put, List.setIfInBounds_toArray, List.set_cons_zero, List.set_cons_succ]
        refine Fx.skip (i := 8) rfl (by kernel_rfl) (by kernel_rfl) (by rfl) ?_
        try simp only [List.getElem_toArray, List.getElem_cons_succ, List.getElem_cons_zero, Act.put, List.setIfInBounds_toArray, List.set_cons_zero, List.set_cons_succ]
        refine Fx.skip (i := 9) rfl (by kernel_rfl) (by kernel_rfl) (by rfl) ?_
        try simp only [List.getElem_toArray, List.getElem_cons_succ, List.getElem_cons_zero, Act.put, List.setIfInBounds_toArray, List.set_cons_zero, List.set_cons_succ]
        refine Fx.skip (i := 10) rfl (by kernel_rfl) (by kernel_rfl) (by rfl) ?_
        try simp only [List.getElem_toArray, List.getElem_cons_succ, List.getElem_cons_zero, Act.put, List.setIfInBounds_toArray, List.set_cons_zero, List.set_cons_succ]
        refine Fx.skip (i := 11) rfl (by kernel_rfl) (by kernel_rfl) (by rfl) ?_
        try simp only [List.getElem_toArray, List.getElem_cons_succ, List.getElem_cons_zero, Act.put, List.setIfInBounds_toArray, List.set_cons_zero, List.set_cons_succ]
        refine Fx.take (i := 12) (v := ?_) _ rfl (by kernel_rfl) (by kernel_rfl) (by rfl) hSS ?_ ?_
        rotate_left
        · (intro w' hSw; (try dsimp only at hSw); go_simp; first | done | with_reducible rfl)
        try simp only [List.getElem_toArray, List.getElem_cons_succ, List.getElem_cons_zero, Act.put, List.setIfInBounds_toArray, List.set_cons_zero, List.set_cons_succ]
        refine Fx.done 0 (by kernel_rfl) (by kernel_rfl) (fun wq hC => ?_)
        have HMQ := Lib.hid (HMW.out.trans0 hC)
        have HOQ := Lib.hid (own_mod HO.out hC (by simp))
        clear c0 t0 t1 e0 e1 hSS hC
        obtain ⟨c0, t0, t1, e0, e1⟩ := HF.out wq HMQ.out
        have H2CA := Lib.hid (two_cells (Blk.new wq #[.int .i64 x1, .int .i64 x2] 108))
        have hglA := HMQ.out.size
        have hwzA := HWZ.out
        have HGEA := Lib.hid (own_ge HOQ.out)
        clear hwzA
        go_wp2_with (at_builtin; refine hold ?_)
        refine Lib.hid ?_
        refine wpList_append_own _ rfl _ _ 55 rfl (w.heap.size + 3) 108 i0 _ 2 16 Try.underlying55 hi0 hz0 hz1 hz2 rfl (by decide) _ k _ rfl (HOQ.out.alloc _) ⟨wq.heap.size, 0, none⟩ 1 1 [.int .i64 x1, .int .i64 x2] rfl rfl H2CA.out (by simp [Value.oneCell']) (by unfold maxLen; omega) (by omega) (by have := HWZ.out; rw [World.size_alloc]; omega) ?_
        intro vA wA hownA hgrowA hnil
        clear hnil
        obtain ⟨gaA, gcA, rfl⟩ := Rw.own_slice hownA
        have HOA := Lib.hid hownA
        have HMA := Lib.hid ((HMQ.out.alloc (.cells #[.int .i64 x1, .int .i64 x2] 108)).grown hgrowA (fun j hj => .inr (by have := HGEA.out j hj; have := HWZ.out; omega)))
        clear hownA hgrowA
        go_wp2_with fail
        go_roundw
        case rel =>
          refine ⟨i + 1, k + 1, gaA, gcA, true, acc ++ [(x1, x2)], by omega, rfl, rfl, by go_num, HMA.out, by rw [List.length_append, ← HKL.out]; rfl, by omega, Lib.hid (by have : k = i + 1 := hkc.out; show k + 1 = i + 1 + 1; omega), HN, ?_⟩
          rw [rowsC_append]
          exact HOA.out
        case measure => simp [intOf]; omega

      | false =>
        by_cases hx : s1 < x1
        · have HN : Hid (wK l (s1, s2) (i + 1) = (acc ++ [(s1, s2)] ++ [(x1, x2)], true)) := Lib.hid (by rw [HS.out, wS_put _ _ _ hx])
          clear HS
          go_wp2_with fail
          refine Fx.wp_region_f [] (fun _ w' => Mod wr w' []) (by kernel_rfl) (by decide) (Mod.refl _ _).drew ?_
          have hSS : ∀ (m' : Nat) w', Mod wr w' [] → _ := fun m' w' h => (⟨keepC h c0, keepC h t0, keepC h e0⟩ : _ ∧ _ ∧ _)
          refine Fx.take (i := 0) (v := ?_) _ rfl (by kernel_rfl) (by kernel_rfl) (by rfl) hSS ?_ ?_
          rotate_left
          · (intro w' hSw; (try dsimp only at hSw); go_simp; first | done | with_reducible rfl)
          try simp only [List.getElem_toArray, List.getElem_cons_succ, List.getElem_cons_zero, Act.put, List.setIfInBounds_toArray, List.set_cons_zero, List.set_cons_succ]
          refine Fx.take (i := 1) (v := ?_) _ rfl (by kernel_rfl) (by kernel_rfl) (by rfl) hSS ?_ ?_
          rotate_left
          · (intro w' hSw; (try dsimp only at hSw); go_simp; first | done | with_reducible rfl)
          try simp only [List.getElem_toArray, List.getElem_cons_succ, List.getElem_cons_zero, Act.put, List.setIfInBounds_toArray, List.set_cons_zero, List.set_cons_succ]
          refine Fx.take (i := 2) (v := ?_) _ rfl (by kernel_rfl) (by kernel_rfl) (by rfl) hSS ?_ ?_
          rotate_left
          · (intro w' hSw; (try dsimp only at hSw); go_simp; first | done | with_reducible rfl)
          try simp only [List.getElem_toArray, List.getElem_cons_succ, List.getElem_cons_zero, Act.put, List.setIfInBounds_toArray, List.set_cons_zero, List.set_cons_succ]
          refine Fx.take (i := 3) (v := ?_) _ rfl (by kernel_rfl) (by kernel_rfl) (by rfl) hSS ?_ ?_
          rotate_left
          · (intro w' hSw; (try dsimp only at hSw); go_simp; first | done | with_reducible rfl)
          try simp only [List.getElem_toArray, List.getElem_cons_succ, List.getElem_cons_zero, Act.put, List.setIfInBounds_toArray, List.set_cons_zero, List.set_cons_succ]
          refine Fx.take (i := 4) (v := ?_) _ rfl (by kernel_rfl) (by kernel_rfl) (by rfl) hSS ?_ ?_
          rotate_left
          · (intro w' hSw; (try dsimp only at hSw); go_simp; first | done | with_reducible rfl)
          try simp only [List.getElem_toArray, List.getElem_cons_succ, List.getElem_cons_zero, Act.put, List.setIfInBounds_toArray, List.set_cons_zero, List.set_cons_succ]
          refine Fx.take (i := 5) (v := ?_) _ rfl (by kernel_rfl) (by kernel_rfl) (by rfl) hSS ?_ ?_
          rotate_left
          · (intro w' hSw; (try dsimp only at hSw); go_simp; first | done | with_reducible rfl)
          try simp only [List.getElem_toArray, List.getElem_cons_succ, List.getElem_cons_zero, Act.put, List.setIfInBounds_toArray, List.set_cons_zero, List.set_cons_succ]
          refine Fx.take (i := 6) (v := ?_) _ rfl (by kernel_rfl) (by kernel_rfl) (by rfl) hSS ?_ ?_
          rotate_left
          · (intro w' hSw; (try dsimp only at hSw); go_simp; first | done | with_reducible rfl)
          try simp only [List.getElem_toArray, List.getElem_cons_succ, List.getElem_cons_zero, Act.put, List.setIfInBounds_toArray, List.set_cons_zero, List.set_cons_succ]
          refine Fx.take (i := 7) (v := ?_) _ rfl (by kernel_rfl) (by kernel_rfl) (by rfl) hSS ?_ ?_
          rotate_left
          · (intro w' hSw; (try dsimp only at hSw); go_simp; first | done | with_reducible rfl)
          try simp only [List.getElem_toArray, List.getElem_cons_succ, List.getElem_cons_zero, Act.put, List.setIfInBounds_toArray, List.set_cons_zero, List.set_cons_succ]
          refine Fx.take (i := 8) (v := ?_) _ rfl (by kernel_rfl) (by kernel_rfl) (by rfl) hSS ?_ ?_
          rotate_left
          · (intro w' hSw; (try dsimp only at hSw); go_simp; first | done | with_reducible rfl)
          try simp only [List.getElem_toArray, List.getElem_cons_succ, List.getElem_cons_zero, Act.put, List.setIfInBounds_toArray, List.set_cons_zero, List.set_cons_succ]
          refine Fx.take (i := 9) (v := ?_) _ rfl (by kernel_rfl) (by kernel_rfl) (by rfl) hSS ?_ ?_
          rotate_left
          · (intro w' hSw; (try dsimp only at hSw); go_simp; first | done | with_reducible rfl)
          try simp only [List.getElem_toArray, List.getElem_cons_succ, List.getElem_cons_zero, Act.put, List.setIfInBounds_toArray, List.set_cons_zero, List.set_cons_succ]
          refine Fx.take (i := 10) (v := ?_) _ rfl (by kernel_rfl) (by kernel_rfl) (by rfl) hSS ?_ ?_
          rotate_left
          · (intro w' hSw; (try dsimp only at hSw); go_simp; first | done | with_reducible rfl)
          try simp only [List.getElem_toArray, List.getElem_cons_succ, List.getElem_cons_zero, Act.put, List.setIfInBounds_toArray, List.set_cons_zero, List.set_cons_succ]
          refine Fx.take (i := 11) (v := ?_) _ rfl (by kernel_rfl) (by kernel_rfl) (by rfl) hSS ?_ ?_
          rotate_left
          · (intro w' hSw; (try dsimp only at hSw); go_simp; first | done | with_reducible rfl)
          try simp only [List.getElem_toArray, List.getElem_cons_succ, List.getElem_cons_zero, Act.put, List.setIfInBounds_toArray, List.set_cons_zero, List.set_cons_succ]
          refine Fx.take (i := 12) (v := ?_) _ rfl (by kernel_rfl) (by kernel_rfl) (by rfl) hSS ?_ ?_
          rotate_left
          · (intro w' hSw; (try dsimp only at hSw); go_simp; first | done | with_reducible rfl)
          try simp only [List.getElem_toArray, List.getElem_cons_succ, List.getElem_cons_zero, Act.put, List.setIfInBounds_toArray, List.set_cons_zero, List.set_cons_succ]
          refine Fx.done 0 (by kernel_rfl) (by kernel_rfl) (fun wq hC => ?_)
          have HMQ := Lib.hid (HMW.out.trans0 hC)
          have HOQ := Lib.hid (own_mod HO.out hC (by simp))
          clear c0 t0 t1 e0 e1 hSS hC
          obtain ⟨c0, t0, t1, e0, e1⟩ := HF.out wq HMQ.out
          have H2CA := Lib.hid (two_cells (Blk.new wq #[.int .i64 s1, .int .i64 s2] 108))
          have hglA := HMQ.out.size
          have hwzA := HWZ.out
          have HGEA := Lib.hid (own_ge HOQ.out)
          clear hwzA
          go_wp2_with (at_builtin; refine hold ?_)
          refine Lib.hid ?_
          refine wpList_append_own _ rfl _ _ 55 rfl (w.heap.size + 3) 108 i0 _ 2 16 Try.underlying55 hi0 hz0 hz1 hz2 rfl (by decide) _ k _ rfl (HOQ.out.alloc _) ⟨wq.heap.size, 0, none⟩ 1 1 [.int .i64 s1, .int .i64 s2] rfl rfl H2CA.out (by simp [Value.oneCell']) (by unfold maxLen; omega) (by omega) (by have := HWZ.out; rw [World.size_alloc]; omega) ?_
          intro vA wA hownA hgrowA hnil
          clear hnil
          obtain ⟨gaA, gcA, rfl⟩ := Rw.own_slice hownA
          have HOA := Lib.hid hownA
          have HMA := Lib.hid ((HMQ.out.alloc (.cells #[.int .i64 s1, .int .i64 s2] 108)).grown hgrowA (fun j hj => .inr (by have := HGEA.out j hj; have := HWZ.out; omega)))
          clear hownA hgrowA
          clear c0 t0 t1 e0 e1
          obtain ⟨c0, t0, t1, e0, e1⟩ := HF.out wA HMA.out
          have H2CB := Lib.hid (two_cells (Blk.new wA #[.int .i64 x1, .int .i64 x2] 108))
          have hglB := HMA.out.size
          have hwzB := HWZ.out
          have HGEB := Lib.hid (own_ge HOA.out)
          clear hwzB
          go_wp2_with (at_builtin; refine hold ?_)
          refine Lib.hid ?_
          refine wpList_append_own _ rfl _ _ 55 rfl (w.heap.size + 3) 108 i0 _ 2 16 Try.underlying55 hi0 hz0 hz1 hz2 rfl (by decide) _ (k + 1) _ rfl (HOA.out.alloc _) ⟨wA.heap.size, 0, none⟩ 1 1 [.int .i64 x1, .int .i64 x2] rfl rfl H2CB.out (by simp [Value.oneCell']) (by unfold maxLen; omega) (by omega) (by have := HWZ.out; rw [World.size_alloc]; omega) ?_
          intro vB wB hownB hgrowB hnil
          clear hnil
          obtain ⟨gaB, gcB, rfl⟩ := Rw.own_slice hownB
          have HOB := Lib.hid hownB
          have HMB := Lib.hid ((HMA.out.alloc (.cells #[.int .i64 x1, .int .i64 x2] 108)).grown hgrowB (fun j hj => .inr (by have := HGEB.out j hj; have := HWZ.out; omega)))
          clear hownB hgrowB
          go_wp2_with fail
          go_roundw
          case rel =>
            refine ⟨i + 1, k + 1 + 1, gaB, gcB, true, acc ++ [(s1, s2)] ++ [(x1, x2)], by omega, rfl, rfl, by go_num, HMB.out, by rw [List.length_append, List.length_append, ← HKL.out]; rfl, by have : k = i + 0 := hkc.out; omega, Lib.hid (by have : k = i + 0 := hkc.out; show k + 1 + 1 = i + 1 + 1; omega), HN, ?_⟩
            rw [rowsC_append, rowsC_append]
            exact HOB.out
          case measure => simp [intOf]; omega

        · have HN : Hid (wK l (s1, s2) (i + 1) = (acc ++ [(x1, x2)], false)) := Lib.hid (by rw [HS.out, wS_out _ _ _ hx])
          have hx' : x1 ≤ s1 := by omega
          clear HS
          go_wp2_with fail
          refine Fx.wp_region_f [] (fun _ w' => Mod wr w' []) (by kernel_rfl) (by decide) (Mod.refl _ _).drew ?_
          have hSS : ∀ (m' : Nat) w', Mod wr w' [] → _ := fun m' w' h => (⟨keepC h c0, keepC h t0, keepC h e0⟩ : _ ∧ _ ∧ _)
          refine Fx.take (i := 0) (v := ?_) _ rfl (by kernel_rfl) (by kernel_rfl) (by rfl) hSS ?_ ?_
          rotate_left
          · (intro w' hSw; (try dsimp only at hSw); go_simp; first | done | with_reducible rfl)
          try simp only [List.getElem_toArray, List.getElem_cons_succ, List.getElem_cons_zero, Act.put, List.setIfInBounds_toArray, List.set_cons_zero, List.set_cons_succ]
          refine Fx.take (i := 1) (v := ?_) _ rfl (by kernel_rfl) (by kernel_rfl) (by rfl) hSS ?_ ?_
          rotate_left
          · (intro w' hSw; (try dsimp only at hSw); go_simp; first | done | with_reducible rfl)
          try simp only [List.getElem_toArray, List.getElem_cons_succ, List.getElem_cons_zero, Act.put, List.setIfInBounds_toArray, List.set_cons_zero, List.set_cons_succ]
          refine Fx.take (i := 2) (v := ?_) _ rfl (by kernel_rfl) (by kernel_rfl) (by rfl) hSS ?_ ?_
          rotate_left
          · (intro w' hSw; (try dsimp only at hSw); go_simp; first | done | with_reducible rfl)
          try simp only [List.getElem_toArray, List.getElem_cons_succ, List.getElem_cons_zero, Act.put, List.setIfInBounds_toArray, List.set_cons_zero, List.set_cons_succ]
          refine Fx.take (i := 3) (v := ?_) _ rfl (by kernel_rfl) (by kernel_rfl) (by rfl) hSS ?_ ?_
          rotate_left
          · (intro w' hSw; (try dsimp only at hSw); go_simp; first | done | with_reducible rfl)
          try simp only [List.getElem_toArray, List.getElem_cons_succ, List.getElem_cons_zero, Act.put, List.setIfInBounds_toArray, List.set_cons_zero, List.set_cons_succ]
          refine Fx.take (i := 4) (v := ?_) _ rfl (by kernel_rfl) (by kernel_rfl) (by rfl) hSS ?_ ?_
          rotate_left
          · (intro w' hSw; (try dsimp only at hSw); go_simp; first | done | with_reducible rfl)
          try simp only [List.getElem_toArray, List.getElem_cons_succ, List.getElem_cons_zero, Act.put, List.setIfInBounds_toArray, List.set_cons_zero, List.set_cons_succ]
          refine Fx.take (i := 5) (v := ?_) _ rfl (by kernel_rfl) (by kernel_rfl) (by rfl) hSS ?_ ?_
          rotate_left
          · (intro w' hSw; (try dsimp only at hSw); go_simp; first | done | with_reducible rfl)
          try simp only [List.getElem_toArray, List.getElem_cons_succ, List.getElem_cons_zero, Act.put, List.setIfInBounds_toArray, List.set_cons_zero, List.set_cons_succ]
          refine Fx.take (i := 6) (v := ?_) _ rfl (by kernel_rfl) (by kernel_rfl) (by rfl) hSS ?_ ?_
          rotate_left
          · (intro w' hSw; (try dsimp only at hSw); go_simp; first | done | with_reducible rfl)
          try simp only [List.getElem_toArray, List.getElem_cons_succ, List.getElem_cons_zero, Act.put, List.setIfInBounds_toArray, List.set_cons_zero, List.set_cons_succ]
          refine Fx.take (i := 7) (v := ?_) _ rfl (by kernel_rfl) (by kernel_rfl) (by rfl) hSS ?_ ?_
          rotate_left
          · (intro w' hSw; (try dsimp only at hSw); go_simp; first | done | with_reducible rfl)
          try simp only [List.getElem_toArray, List.getElem_cons_succ, List.getElem_cons_zero, Act.put, List.setIfInBounds_toArray, List.set_cons_zero, List.set_cons_succ]
          refine Fx.take (i := 8) (v := ?_) _ rfl (by kernel_rfl) (by kernel_rfl) (by rfl) hSS ?_ ?_
          rotate_left
          · (intro w' hSw; (try dsimp only at hSw); go_simp; first | done | with_reducible rfl)
          try simp only [List.getElem_toArray, List.getElem_cons_succ, List.getElem_cons_zero, Act.put, List.setIfInBounds_toArray, List.set_cons_zero, List.set_cons_succ]
          refine Fx.take (i := 9) (v := ?_) _ rfl (by kernel_rfl) (by kernel_rfl) (by rfl) hSS ?_ ?_
          rotate_left
          · (intro w' hSw; (try dsimp only at hSw); go_simp; first | done | with_reducible rfl)
          try simp only [List.getElem_toArray, List.getElem_cons_succ, List.getElem_cons_zero, Act.put, List.setIfInBounds_toArray, List.set_cons_zero, List.set_cons_succ]
          refine Fx.take (i := 10) (v := ?_) _ rfl (by kernel_rfl) (by kernel_rfl) (by rfl) hSS ?_ ?_
          rotate_left
          · (intro w' hSw; (try dsimp only at hSw); go_simp; first | done | with_reducible rfl)
          try simp only [List.getElem_toArray, List.getElem_cons_succ, List.getElem_cons_zero, Act.put, List.setIfInBounds_toArray, List.set_cons_zero, List.set_cons_succ]
          refine Fx.take (i := 11) (v := ?_) _ rfl (by kernel_rfl) (by kernel_rfl) (by rfl) hSS ?_ ?_
          rotate_left
          · (intro w' hSw; (try dsimp only at hSw); go_simp; first | done | with_reducible rfl)
          try simp only [List.getElem_toArray, List.getElem_cons_succ, List.getElem_cons_zero, Act.put, List.setIfInBounds_toArray, List.set_cons_zero, List.set_cons_succ]
          refine Fx.take (i := 12) (v := ?_) _ rfl (by kernel_rfl) (by kernel_rfl) (by rfl) hSS ?_ ?_
          rotate_left
          · (intro w' hSw; (try dsimp only at hSw); go_simp; first | done | with_reducible rfl)
          try simp only [List.getElem_toArray, List.getElem_cons_succ, List.getElem_cons_zero, Act.put, List.setIfInBounds_toArray, List.set_cons_zero, List.set_cons_succ]
          refine Fx.done 0 (by kernel_rfl) (by kernel_rfl) (fun wq hC => ?_)
          have HMQ := Lib.hid (HMW.out.trans0 hC)
          have HOQ := Lib.hid (own_mod HO.out hC (by simp))
          clear c0 t0 t1 e0 e1 hSS hC
          obtain ⟨c0, t0, t1, e0, e1⟩ := HF.out wq HMQ.out
          have H2CA := Lib.hid (two_cells (Blk.new wq #[.int .i64 x1, .int .i64 x2] 108))
          have hglA := HMQ.out.size
          have hwzA := HWZ.out
          have HGEA := Lib.hid (own_ge HOQ.out)
          clear hwzA
          go_wp2_with (at_builtin; refine hold ?_)
          refine Lib.hid ?_
          refine wpList_append_own _ rfl _ _ 55 rfl (w.heap.size + 3) 108 i0 _ 2 16 Try.underlying55 hi0 hz0 hz1 hz2 rfl (by decide) _ k _ rfl (HOQ.out.alloc _) ⟨wq.heap.size, 0, none⟩ 1 1 [.int .i64 x1, .int .i64 x2] rfl rfl H2CA.out (by simp [Value.oneCell']) (by unfold maxLen; omega) (by omega) (by have := HWZ.out; rw [World.size_alloc]; omega) ?_
          intro vA wA hownA hgrowA hnil
          clear hnil
          obtain ⟨gaA, gcA, rfl⟩ := Rw.own_slice hownA
          have HOA := Lib.hid hownA
          have HMA := Lib.hid ((HMQ.out.alloc (.cells #[.int .i64 x1, .int .i64 x2] 108)).grown hgrowA (fun j hj => .inr (by have := HGEA.out j hj; have := HWZ.out; omega)))
          clear hownA hgrowA
          go_wp2_with fail
          go_roundw
          case rel =>
            refine ⟨i + 1, k + 1, gaA, gcA, false, acc ++ [(x1, x2)], by omega, rfl, rfl, by go_num, HMA.out, by rw [List.length_append, ← HKL.out]; rfl, by omega, Lib.hid (by have : k = i + 0 := hkc.out; show k + 1 = i + 1 + 0; omega), HN, ?_⟩
            rw [rowsC_append]
            exact HOA.out
          case measure => simp [intOf]; omega
    · have hge : (l.length : Int) ≤ i := by omega
      have hii : i = l.length := by omega
      have HKW := Lib.hid HK.out
      rw [hii] at HKW
      have HWL := Lib.hid (withL_of HKW.out)
      have hg2 := HMW.out.size
      have hg0 := HM0.out.size
      obtain ⟨c0, t0, t1⟩ : wr.cell? ⟨w.heap.size, 0, none⟩ = some (.slice a l.length c) ∧ wr.cell? ⟨w.heap.size + 1, 0, none⟩ = some (.int .i64 s1) ∧ wr.cell? ⟨w.heap.size + 1, 1, none⟩ = some (.int .i64 s2) :=
        ⟨(HB0.out.mod HMW.out (by simp)).cell 0, (HD0.out.mod HMW.out (by simp)).cell 0, (HD0.out.mod HMW.out (by simp)).cell 1⟩
      clear HK HKW
      cases inb with
      | true =>
        rw [if_pos rfl] at HWL
        have hms : Mod wr (wr.setCell ⟨w.heap.size + 2, 0, none⟩ (.slice ga k gc)) [w.heap.size + 2] := (Mod.refl _ _).setCell (by simp) _
        have HF : Hid (RefAt (wr.setCell ⟨w.heap.size + 2, 0, none⟩ (.slice ga k gc)) w.heap.size (.slice ga k gc) (withL l (s1, s2))) := Lib.hid (by
          rw [HWL.out]
          unfold RefAt
          have hkk : (acc).length = k := by simp [← HKL.out]
          rw [hkk]
          exact own_base (own_mod HO.out hms (fun j hj => by have := own_ge HO.out j hj; simp; omega)) (by omega))
        have HMF := Lib.hid ((HM0.out.trans0 HMW.out).setCell (p := ⟨w.heap.size + 2, 0, none⟩) (.inr (by show w.heap.size ≤ w.heap.size + 2; omega)) (.slice ga k gc))
        have HCF := Lib.hid (HC0.out.mod HMW.out (by simp))
        have f0 := HCF.out.cell 0
        have f1 := HCF.out.free 0
        have hlf := HCF.out.lt
        clear hms
        go_wp2_with fail
        refine bodyPost_ret (v := .agg #[.slice ga k gc]) (by simp [results, Try.results60, go_sem, f0, f1, hlf]) rfl ⟨_, rfl, HMF.out, HF.out⟩

      | false =>
        rw [if_neg (by simp)] at HWL
        have H2CA := Lib.hid (two_cells (Blk.new wr #[.int .i64 s1, .int .i64 s2] 108))
        have hglA := HMW.out.size
        have hwzA := HWZ.out
        have HGEA := Lib.hid (own_ge HO.out)
        clear hwzA
        go_wp2_with (at_builtin; refine hold ?_)
        refine Lib.hid ?_
        refine wpList_append_own _ rfl _ _ 55 rfl (w.heap.size + 3) 108 i0 _ 2 16 Try.underlying55 hi0 hz0 hz1 hz2 rfl (by decide) _ k _ rfl (HO.out.alloc _) ⟨wr.heap.size, 0, none⟩ 1 1 [.int .i64 s1, .int .i64 s2] rfl rfl H2CA.out (by simp [Value.oneCell']) (by unfold maxLen; omega) (by omega) (by have := HWZ.out; rw [World.size_alloc]; omega) ?_
        intro vA wA hownA hgrowA hnil
        clear hnil
        obtain ⟨gaA, gcA, rfl⟩ := Rw.own_slice hownA
        have HOA := Lib.hid hownA
        have HMA := Lib.hid ((HMW.out.alloc (.cells #[.int .i64 s1, .int .i64 s2] 108)).grown hgrowA (fun j hj => .inr (by have := HGEA.out j hj; have := HWZ.out; omega)))
        clear hownA hgrowA
        have hms : Mod wA (wA.setCell ⟨w.heap.size + 2, 0, none⟩ (.slice gaA (k + 1) gcA)) [w.heap.size + 2] := (Mod.refl _ _).setCell (by simp) _
        have HF : Hid (RefAt (wA.setCell ⟨w.heap.size + 2, 0, none⟩ (.slice gaA (k + 1) gcA)) w.heap.size (.slice gaA (k + 1) gcA) (withL l (s1, s2))) := Lib.hid (by
          rw [HWL.out]
          unfold RefAt
          have hkk : (acc ++ [(s1, s2)]).length = (k + 1) := by simp [← HKL.out]
          rw [hkk]
          rw [rowsC_append]
          exact own_base (own_mod HOA.out hms (fun j hj => by have := own_ge HOA.out j hj; simp; omega)) (by omega))
        have HMF := Lib.hid ((HM0.out.trans0 HMA.out).setCell (p := ⟨w.heap.size + 2, 0, none⟩) (.inr (by show w.heap.size ≤ w.heap.size + 2; omega)) (.slice gaA (k + 1) gcA))
        have HCF := Lib.hid (HC0.out.mod HMA.out (by simp))
        have f0 := HCF.out.cell 0
        have f1 := HCF.out.free 0
        have hlf := HCF.out.lt
        clear hms
        go_wp2_with fail
        refine bodyPost_ret (v := .agg #[.slice gaA (k + 1) gcA]) (by simp [results, Try.results60, go_sem, f0, f1, hlf]) rfl ⟨_, rfl, HMF.out, HF.out⟩
end Go.Proofs.Ytcbafomhifdgpaa.Ss
end

section
/- Tables of sessions: the reference's Text, Open, Take, Close. -/
namespace Go.Proofs.Ytcbafomhifdgpaa.Ss
open Go.RowKit Mem Si Bits
open Ke (numI numI_size)
set_option linter.unusedSimpArgs false
set_option linter.unusedVariables false
set_option maxRecDepth 100000

theorem rnumI_calls (x : Int) (hx : 0 ≤ x ∧ x ≤ 549755813888) (w : World) : Calls Try.prog 43 #[.int .u64 x] w fun e w' => e = .returned (.string (numI x)) ∧ Mod w w' [] := by
  have h := refnum_calls x.toNat (by omega) w
  rw [Int.toNat_of_nonneg hx.1] at h
  exact h

set_option maxHeartbeats 2000000 in
theorem rtext_calls (b : Nat) (v : Value) (l : List Sn) (w : World) (h : RefAt w b v l) (hn : l.length ≤ 1000) (hb : SB l) :
    Calls Try.prog 35 #[.agg #[v]] w fun e w' => e = .returned (.string (txt l)) ∧ Mod w w' [] := by
  have NC := Lib.hid rnumI_calls
  have SUCC := Lib.hid (txtK_succ l)
  have HSB := Lib.hid hb
  have HZ : Hid (numI (l.length : Int) = txtK l 0) := Lib.hid rfl
  have HE : Hid (txtK l l.length = txt l) := Lib.hid rfl
  have HR := Lib.hid h
  obtain ⟨a, c, rfl⟩ := Rw.own_slice h
  have HM0 := Lib.hid ((Mod.refl w []).alloc (.cells #[.slice a l.length c] 64))
  have HB0 := Lib.hid (Blk.new w #[.slice a l.length c] 64)
  have hn' : (l.length : Int) ≤ 1000 := by omega
  have hwl := IntWalk.u64_in (l.length : Int) (by omega)
  have N0 := Lib.hid (fun w => rnumI_calls (l.length : Int) (by omega) w)
  rw [HZ.out] at N0
  clear h hb
  go_enter Try.func35, Try.ntmps35
  go_wp2_with fail
  (with_reducible refine (N0.out _).mono ?_)
  rintro e w1 ⟨rfl, hm1⟩
  have HM1 := Lib.hid (HM0.out.trans0 hm1)
  have HB1 := Lib.hid (HB0.out.mod hm1 (by simp))
  clear hm1 N0 HM0 HB0
  go_wp2_with fail
  go_loopw [3, 4] (fun vs vi wr => ∃ i : Nat, i ≤ l.length ∧ vs = .string (txtK l i) ∧ vi = .int .i64 (i : Int) ∧ Mod w1 wr []) (fun _ vi _ => l.length + 1 - (intOf vi).toNat)
  case atStart => exact ⟨0, Nat.zero_le _, rfl, rfl, Mod.refl _ _⟩
  case round =>
    obtain ⟨i, hi, rfl, rfl, hm⟩ := hrel
    have HM := Lib.hid (HM1.out.trans0 hm)
    have HMW := Lib.hid hm
    have c0 := (HB1.out.mod hm (by simp)).cell 0
    clear hm
    by_cases hlt : i < l.length
    · have hlt' : (i : Int) < l.length := by omega
      obtain ⟨g, cap, hv, hg, d0, d1⟩ := HR.out.cells i hlt
      have e0 := keepC HM.out d0
      have e1 := keepC HM.out d1
      injection hv with q1 q2 q3
      subst q1 q3
      have hsx := HSB.out _ (List.getElem_mem hlt)
      have HS : Hid (txtK l (i + 1) = txtK l i ++ numI l[i].1 ++ numI l[i].2) := Lib.hid (by rw [SUCC.out i hlt]; unfold rowT; rw [ByteArray.append_assoc])
      clear d0 d1 q2 HR
      generalize l[i] = x at *
      obtain ⟨x1, x2⟩ := x
      simp only at e0 e1 hsx
      obtain ⟨⟨h1, h2⟩, ⟨h3, h4⟩⟩ := hsx
      have hw1 := IntWalk.u64_in x1 (by omega)
      have hw2 := IntWalk.u64_in x2 (by omega)
      have P1 := Lib.hid (fun w => NC.out x1 ⟨h1, h2⟩ w)
      have P2 := Lib.hid (fun w => NC.out x2 ⟨h3, h4⟩ w)
      have hz := (txtK_size l i hi).2
      have hz1 := (numI_size x1).2
      have hz2 := (numI_size x2).2
      generalize txtK l i = tx at *
      have hs1 : ¬ (9223372036854775807 < tx.size + (numI x1).size) := by omega
      have hs2 : ¬ (9223372036854775807 < tx.size + (numI x1).size + (numI x2).size) := by omega
      clear hz hz1 hz2
      go_wp2_with fail
      refine Fx.wp_region_f [] (fun _ w' => Mod wr w' []) (by kernel_rfl) (by decide) (Mod.refl _ _).drew ?_
      have hSS : ∀ (m' : Nat) w', Mod wr w' [] → _ := fun m' w' h => (⟨keepC h c0, keepC h e0, keepC h e1⟩ : _ ∧ _ ∧ _)
      refine Fx.take (i := 0) (v := ?_) _ rfl (by kernel_rfl) (by kernel_rfl) (by rfl) hSS ?_ ?_
      rotate_left
      · (intro w' hSw; (try dsimp only at hSw); go_simp; first | done | with_reducible rfl)
      try simp only [List.getElem_toArray, List.getElem_cons_succ, List.getElem_cons_zero, Act.put, List.setIfInBounds_toArray, List.set_cons_zero, List.set_cons_succ]
      refine Fx.take (i := 1) (v := ?_) _ rfl (by kernel_rfl) (by kernel_rfl) (by rfl) hSS ?_ ?_
      rotate_left
      · (intro w' hSw; (try dsimp only at hSw); go_simp; first | done | with_reducible rfl)
      try simp only [List.getElem_toArray, List.getElem_cons_succ, List.getElem_cons_zero, Act.put, List.setIfInBounds_toArray, List.set_cons_zero, List.set_cons_succ]
      refine Fx.take (i := 2) (v := ?_) _ rfl (by kernel_rfl) (by kernel_rfl) (by rfl) hSS ?_ ?_
      rotate_left
      · (intro w' hSw; (try dsimp only at hSw); go_simp; first | done | with_reducible rfl)
      try simp only [List.getElem_toArray, List.getElem_cons_succ, List.getElem_cons_zero, Act.put, List.setIfInBounds_toArray, List.set_cons_zero, List.set_cons_succ]
      refine Fx.take (i := 3) (v := ?_) _ rfl (by kernel_rfl) (by kernel_rfl) (by rfl) hSS ?_ ?_
      rotate_left
      · (intro w' hSw; (try dsimp only at hSw); go_simp; first | done | with_reducible rfl)
      try simp only [List.getElem_toArray, List.getElem_cons_succ, List.getElem_cons_zero, Act.put, List.setIfInBounds_toArray, List.set_cons_zero, List.set_cons_succ]
      refine Fx.take (i := 4) (v := ?_) _ rfl (by kernel_rfl) (by kernel_rfl) (by rfl) hSS ?_ ?_
      rotate_left
      · (intro w' hSw; (try dsimp only at hSw); go_simp; first | done | with_reducible rfl)
      try simp only [List.getElem_toArray, List.getElem_cons_succ, List.getElem_cons_zero, Act.put, List.setIfInBounds_toArray, List.set_cons_zero, List.set_cons_succ]
      refine Fx.take (i := 5) (v := ?_) _ rfl (by kernel_rfl) (by kernel_rfl) (by rfl) hSS ?_ ?_
      rotate_left
      · (intro w' hSw; (try dsimp only at hSw); go_simp; first | done | with_reducible rfl)
      try simp only [List.getElem_toArray, List.getElem_cons_succ, List.getElem_cons_zero, Act.put, List.setIfInBounds_toArray, List.set_cons_zero, List.set_cons_succ]
      refine Fx.take (i := 6) (v := ?_) _ rfl (by kernel_rfl) (by kernel_rfl) (by rfl) hSS ?_ ?_
      rotate_left
      · (intro w' hSw; (try dsimp only at hSw); go_simp; first | done | with_reducible rfl)
      try simp only [List.getElem_toArray, List.getElem_cons_succ, List.getElem_cons_zero, Act.put, List.setIfInBounds_toArray, List.set_cons_zero, List.set_cons_succ]
      refine Fx.take (i := 7) (v := ?_) _ rfl (by kernel_rfl) (by kernel_rfl) (by rfl) hSS ?_ ?_
      rotate_left
      · (intro w' hSw; (try dsimp only at hSw); go_simp; first | done | with_reducible rfl)
      try simp only [List.getElem_toArray, List.getElem_cons_succ, List.getElem_cons_zero, Act.put, List.setIfInBounds_toArray, List.set_cons_zero, List.set_cons_succ]
      refine Fx.call' (i := 8) rfl (by kernel_rfl) (by kernel_rfl) (by rfl) ?_
      apply Exists.intro
      apply Exists.intro
      apply Exists.intro
      refine ⟨?_, ?_, ?_⟩
      · (intro w'; go_simp; first | done | (refine ⟨?_, ?_⟩ <;> with_reducible rfl) | with_reducible rfl)
      · (exact fun m w' h => (P1.out w').mono fun _ _ ⟨he, hw⟩ => ⟨he, h.trans0 hw⟩)
      try simp only [List.getElem_toArray, List.getElem_cons_succ, List.getElem_cons_zero, Act.put, List.setIfInBounds_toArray, List.set_cons_zero, List.set_cons_succ]
      refine Fx.take (i := 9) (v := ?_) _ rfl (by kernel_rfl) (by kernel_rfl) (by rfl) hSS ?_ ?_
      rotate_left
      · (intro w' hSw; (try dsimp only at hSw); go_simp; first | done | with_reducible rfl)
      try simp only [List.getElem_toArray, List.getElem_cons_succ, List.getElem_cons_zero, Act.put, List.setIfInBounds_toArray, List.set_cons_zero, List.set_cons_succ]
      refine Fx.take (i := 10) (v := ?_) _ rfl (by kernel_rfl) (by kernel_rfl) (by rfl) hSS ?_ ?_
      rotate_left
      · (intro w' hSw; (try dsimp only at hSw); go_simp; first | done | with_reducible rfl)
      try simp only [List.getElem_toArray, List.getElem_cons_succ, List.getElem_cons_zero, Act.put, List.setIfInBounds_toArray, List.set_cons_zero, List.set_cons_succ]
      refine Fx.take (i := 11) (v := ?_) _ rfl (by kernel_rfl) (by kernel_rfl) (by rfl) hSS ?_ ?_
      rotate_left
      · (intro w' hSw; (try dsimp only at hSw); go_simp; first | done | with_reducible rfl)
      try simp only [List.getElem_toArray, List.getElem_cons_succ, List.getElem_cons_zero, Act.put, List.setIfInBounds_toArray, List.set_cons_zero, List.set_cons_succ]
      refine Fx.take (i := 12) (v := ?_) _ rfl (by kernel_rfl) (by kernel_rfl) (by rfl) hSS ?_ ?_
      rotate_left
      · (intro w' hSw; (try dsimp only at hSw); go_simp; first | done | with_reducible rfl)
      try simp only [List.getElem_toArray, List.getElem_cons_succ, List.getElem_cons_zero, Act.put, List.setIfInBounds_toArray, List.set_cons_zero, List.set_cons_succ]
      refine Fx.take (i := 13) (v := ?_) _ rfl (by kernel_rfl) (by kernel_rfl) (by rfl) hSS ?_ ?_
      rotate_left
      · (intro w' hSw; (try dsimp only at hSw); go_simp; first | done | with_reducible rfl)
      try simp only [List.getElem_toArray, List.getElem_cons_succ, List.getElem_cons_zero, Act.put, List.setIfInBounds_toArray, List.set_cons_zero, List.set_cons_succ]
      refine Fx.take (i := 14) (v := ?_) _ rfl (by kernel_rfl) (by kernel_rfl) (by rfl) hSS ?_ ?_
      rotate_left
      · (intro w' hSw; (try dsimp only at hSw); go_simp; first | done | with_reducible rfl)
      try simp only [List.getElem_toArray, List.getElem_cons_succ, List.getElem_cons_zero, Act.put, List.setIfInBounds_toArray, List.set_cons_zero, List.set_cons_succ]
      refine Fx.take (i := 15) (v := ?_) _ rfl (by kernel_rfl) (by kernel_rfl) (by rfl) hSS ?_ ?_
      rotate_left
      · (intro w' hSw; (try dsimp only at hSw); go_simp; first | done | with_reducible rfl)
      try simp only [List.getElem_toArray, List.getElem_cons_succ, List.getElem_cons_zero, Act.put, List.setIfInBounds_toArray, List.set_cons_zero, List.set_cons_succ]
      refine Fx.take (i := 16) (v := ?_) _ rfl (by kernel_rfl) (by kernel_rfl) (by rfl) hSS ?_ ?_
      rotate_left
      · (intro w' hSw; (try dsimp only at hSw); go_simp; first | done | with_reducible rfl)
      try simp only [List.getElem_toArray, List.getElem_cons_succ, List.getElem_cons_zero, Act.put, List.setIfInBounds_toArray, List.set_cons_zero, List.set_cons_succ]
      refine Fx.call' (i := 17) rfl (by kernel_rfl) (by kernel_rfl) (by rfl) ?_
      apply Exists.intro
      apply Exists.intro
      apply Exists.intro
      refine ⟨?_, ?_, ?_⟩
      · (intro w'; go_simp; first | done | (refine ⟨?_, ?_⟩ <;> with_reducible rfl) | with_reducible rfl)
      · (exact fun m w' h => (P2.out w').mono fun _ _ ⟨he, hw⟩ => ⟨he, h.trans0 hw⟩)
      try simp only [List.getElem_toArray, List.getElem_cons_succ, List.getElem_cons_zero, Act.put, List.setIfInBounds_toArray, List.set_cons_zero, List.set_cons_succ]
      refine Fx.take (i := 18) (v := ?_) _ rfl (by kernel_rfl) (by kernel_rfl) (by rfl) hSS ?_ ?_
      rotate_left
      · (intro w' hSw; (try dsimp only at hSw); go_simp; first | done | with_reducible rfl)
      try simp only [List.getElem_toArray, List.getElem_cons_succ, List.getElem_cons_zero, Act.put, List.setIfInBounds_toArray, List.set_cons_zero, List.set_cons_succ]
      refine Fx.take (i := 19) (v := ?_) _ rfl (by kernel_rfl) (by kernel_rfl) (by rfl) hSS ?_ ?_
      rotate_left
      · (intro w' hSw; (try dsimp only at hSw); go_simp; first | done | with_reducible rfl)
      try simp only [List.getElem_toArray, List.getElem_cons_succ, List.getElem_cons_zero, Act.put, List.setIfInBounds_toArray, List.set_cons_zero, List.set_cons_succ]
      refine Fx.done 0 (by kernel_rfl) (by kernel_rfl) (fun w4 hC => ?_)
      have HM4 := Lib.hid (HMW.out.trans0 hC)
      clear hC c0 e0 e1 hSS
      go_wp2_with fail
      go_roundw
      case rel => exact ⟨i + 1, by omega, by rw [HS.out], by go_num, HM4.out⟩
      case measure => simp [intOf]; omega
    · have hge : (l.length : Int) ≤ i := by omega
      have hii : i = l.length := by omega
      have HF : Hid (txtK l i = txt l) := Lib.hid (by rw [hii]; exact HE.out)
      clear hii
      go_wp2_with fail
      go_ret
      exact ⟨by rw [HF.out]; rfl, HM.out⟩

/-! A step of the reference: a new row, or the old one. -/
def StepP (l' : List Sn) (r : Array Value) (w : World) (e : Ending) (w' : World) : Prop :=
  ∃ v', e = .returned (.tuple (#[.agg #[v']] ++ r)) ∧ Mod w w' [] ∧ RefAt w' 0 v' l'
theorem StepP.mk {l' : List Sn} {r : Array Value} {w w' : World} {v' : Value} {e : Ending} (h : e = .returned (.tuple (#[.agg #[v']] ++ r))) (hm : Mod w w' []) (hr : RefAt w' 0 v' l') : StepP l' r w e w' := ⟨v', h, hm, hr⟩
theorem blk_ne {w : World} {k : Nat} {cs cs' : Array Value} {t t' : TypeId} (h : Blk w k cs t) (h' : Blk w k cs' t') : t = t' := by
  have e := h.symm.trans h'
  injection e with e
  injection e
theorem set_ref {x : World} {t : Nat} {ga : Option Addr} {k gc : Nat} {l : List Sn} {u u' : Value} (h : RefAt x 0 (.slice ga k gc) l) (hb : Blk x t #[u] 64) : RefAt (x.setCell ⟨t, 0, none⟩ u') 0 (.slice ga k gc) l := by
  refine h.mod ((Mod.refl x [t]).setCell (by simp) _) (fun j hj hm => ?_)
  rw [List.mem_singleton] at hm
  subst hm
  obtain ⟨_, ⟨e, _⟩ | ⟨g, cap, cur, e, _, hc, _⟩⟩ := h
  · rw [e] at hj; cases hj
  · have : j = g := by rw [e] at hj; simpa [Value.ownBlock] using hj.symm
    subst this
    have := blk_ne (show Blk x j cur 108 from hc) hb
    exact absurd this (by decide)

set_option maxHeartbeats 2000000 in
theorem ropen_calls (b : Nat) (v : Value) (l : List Sn) (id : Int) (w : World) (h : RefAt w b v l) (hn : l.length ≤ 1000) :
    Calls Try.prog 32 #[.agg #[v], .int .i64 id] w (StepP (rOpen l id).1 #[.int .i64 (rOpen l id).2] w) := by
  obtain ⟨R, hR⟩ : ∃ R, R = rOpen l id := ⟨_, rfl⟩
  rw [← hR]
  unfold rOpen at hR
  have WT := Lib.hid (fun w h => with_calls 0 v l id 0 w h hn)
  have HR := Lib.hid h
  obtain ⟨a, c, rfl⟩ := Rw.own_slice h
  have HM0 := Lib.hid (((Mod.refl w []).alloc (.cells #[.slice a l.length c] 64)).alloc (.cells #[.slice none 0 0] 64))
  have HB0 := Lib.hid ((Blk.new w #[.slice a l.length c] 64).alloc (.cells #[.slice none 0 0] 64))
  have hc0 := Blk.new (w.alloc (.cells #[.slice a l.length c] 64)) #[.slice none 0 0] 64
  rw [World.size_alloc] at hc0
  have HC0 := Lib.hid hc0
  have hn' : (l.length : Int) ≤ 1000 := by omega
  have SQ := Lib.hid (fun w h => seq_calls 0 (.slice a l.length c) l id w h hn)
  have HEND : Hid (∀ x ga k gc l' r, Mod w x [] → RefAt x 0 (.slice ga k gc) l' → w.heap.size + 1 < x.heap.size → Blk x (w.heap.size + 1) #[.slice none 0 0] 64 → StepP l' r w (.returned (.tuple (#[.agg #[.slice ga k gc]] ++ r))) (x.setCell ⟨w.heap.size + 1, 0, none⟩ (.slice ga k gc))) :=
    Lib.hid (fun x ga k gc l' r hm hr hl hb => StepP.mk rfl (hm.setCell (.inr (by show w.heap.size ≤ w.heap.size + 1; omega)) _) (set_ref hr hb))
  clear h hc0
  by_cases hb : id < 1 ∨ 549755813888 < id
  · rw [if_pos hb] at hR
    subst hR
    rcases (by omega : id < 1 ∨ (1 ≤ id ∧ 549755813888 < id)) with k1 | ⟨k1, k2⟩
    all_goals
      go_enter Try.func32, Try.ntmps32
      go_wp2_with fail
      refine bodyPost_ret (v := .tuple #[.agg #[.slice a l.length c], .int .i64 1]) (by simp [results, Try.results32, go_sem]) rfl (StepP.mk rfl (((Mod.refl w []).alloc _).alloc _) ((HR.out.mod (((Mod.refl w []).alloc _).alloc _) (by simp)).base (Nat.zero_le _)))
  · rw [if_neg hb] at hR
    have k1 : 1 ≤ id := by omega
    have k2 : id ≤ 549755813888 := by omega
    clear hb
    generalize seqF l id = q at *
    have HRR := Lib.hid hR
    clear hR
    go_enter Try.func32, Try.ntmps32
    go_wp2_with fail
    (with_reducible refine (SQ.out _ ?_).mono ?_)
    · exact ((HR.out.mod HM0.out (by simp)).base (Nat.zero_le _))
    rintro e w1 ⟨rfl, hm1⟩
    have HMX := Lib.hid (HM0.out.trans0 hm1)
    have HCX := Lib.hid (HC0.out.mod hm1 (by simp))
    have HBX := Lib.hid (HB0.out.mod hm1 (by simp))
    have HRX := Lib.hid ((HR.out.mod HMX.out (by simp)).base (Nat.zero_le _))
    have b0 := HBX.out.cell 0
    clear hm1
    have hR := HRR.out
    clear HRR
    by_cases h0 : 0 ≤ q
    · rw [if_pos h0] at hR
      subst hR
      have f0 := HCX.out.cell 0
      have f1 := HCX.out.free 0
      have hlx := HCX.out.lt
      have HF := Lib.hid (HEND.out w1 a l.length c l #[.int .i64 9] HMX.out HRX.out hlx HCX.out)
      go_wp2_with fail
      refine bodyPost_ret (v := .tuple #[.agg #[.slice a l.length c], .int .i64 9]) (by simp [results, Try.results32, go_sem, f0, f1, hlx]) rfl HF.out
    · rw [if_neg h0] at hR
      have h0' : q < 0 := by omega
      by_cases h32 : 32 ≤ l.length
      · rw [if_pos h32] at hR
        subst hR
        have h32' : (32 : Int) ≤ l.length := by omega
        have f0 := HCX.out.cell 0
        have f1 := HCX.out.free 0
        have hlx := HCX.out.lt
        have HF := Lib.hid (HEND.out w1 a l.length c l #[.int .i64 7] HMX.out HRX.out hlx HCX.out)
        go_wp2_with fail
        refine bodyPost_ret (v := .tuple #[.agg #[.slice a l.length c], .int .i64 7]) (by simp [results, Try.results32, go_sem, f0, f1, hlx]) rfl HF.out
      · rw [if_neg h32] at hR
        subst hR
        have h32' : (l.length : Int) < 32 := by omega
        go_wp2_with fail
        (with_reducible refine (WT.out _ ?_).mono ?_)
        · exact HRX.out
        rintro e w2 ⟨v2, rfl, hm2, hr2⟩
        obtain ⟨ga, gc, rfl⟩ := Rw.own_slice hr2
        have HMX := Lib.hid (HMX.out.trans0 hm2)
        have HCX := Lib.hid (HCX.out.mod hm2 (by simp))
        have HRX := Lib.hid (hr2.base (Nat.zero_le _))
        clear hm2 hr2
        have f0 := HCX.out.cell 0
        have f1 := HCX.out.free 0
        have hlx := HCX.out.lt
        have HF := Lib.hid (HEND.out w2 ga (withL l (id, 0)).length gc (withL l (id, 0)) #[.int .i64 0] HMX.out HRX.out hlx HCX.out)
        go_wp2_with fail
        refine bodyPost_ret (v := .tuple #[.agg #[.slice ga (withL l (id, 0)).length gc], .int .i64 0]) (by simp [results, Try.results32, go_sem, f0, f1, hlx]) rfl HF.out

set_option maxHeartbeats 2000000 in
theorem rclose_calls (b : Nat) (v : Value) (l : List Sn) (id : Int) (w : World) (h : RefAt w b v l) (hn : l.length ≤ 1000) :
    Calls Try.prog 34 #[.agg #[v], .int .i64 id] w (StepP (rClose l id).1 #[.int .i64 (rClose l id).2] w) := by
  obtain ⟨R, hR⟩ : ∃ R, R = rClose l id := ⟨_, rfl⟩
  rw [← hR]
  unfold rClose at hR
  have WO := Lib.hid (fun w h => without_calls 0 v l id w h hn)
  have HR := Lib.hid h
  obtain ⟨a, c, rfl⟩ := Rw.own_slice h
  have HM0 := Lib.hid (((Mod.refl w []).alloc (.cells #[.slice a l.length c] 64)).alloc (.cells #[.slice none 0 0] 64))
  have HB0 := Lib.hid ((Blk.new w #[.slice a l.length c] 64).alloc (.cells #[.slice none 0 0] 64))
  have hc0 := Blk.new (w.alloc (.cells #[.slice a l.length c] 64)) #[.slice none 0 0] 64
  rw [World.size_alloc] at hc0
  have HC0 := Lib.hid hc0
  have hn' : (l.length : Int) ≤ 1000 := by omega
  have SQ := Lib.hid (fun w h => seq_calls 0 (.slice a l.length c) l id w h hn)
  have HEND : Hid (∀ x ga k gc l' r, Mod w x [] → RefAt x 0 (.slice ga k gc) l' → w.heap.size + 1 < x.heap.size → Blk x (w.heap.size + 1) #[.slice none 0 0] 64 → StepP l' r w (.returned (.tuple (#[.agg #[.slice ga k gc]] ++ r))) (x.setCell ⟨w.heap.size + 1, 0, none⟩ (.slice ga k gc))) :=
    Lib.hid (fun x ga k gc l' r hm hr hl hb => StepP.mk rfl (hm.setCell (.inr (by show w.heap.size ≤ w.heap.size + 1; omega)) _) (set_ref hr hb))
  clear h hc0
  generalize seqF l id = q at *
  have HRR := Lib.hid hR
  clear hR
  go_enter Try.func34, Try.ntmps34
  go_wp2_with fail
  (with_reducible refine (SQ.out _ ?_).mono ?_)
  · exact ((HR.out.mod HM0.out (by simp)).base (Nat.zero_le _))
  rintro e w1 ⟨rfl, hm1⟩
  have HMX := Lib.hid (HM0.out.trans0 hm1)
  have HCX := Lib.hid (HC0.out.mod hm1 (by simp))
  have HBX := Lib.hid (HB0.out.mod hm1 (by simp))
  have HRX := Lib.hid ((HR.out.mod HMX.out (by simp)).base (Nat.zero_le _))
  have b0 := HBX.out.cell 0
  clear hm1
  have hR := HRR.out
  clear HRR
  by_cases h0 : q < 0
  · rw [if_pos h0] at hR
    subst hR
    have f0 := HCX.out.cell 0
    have f1 := HCX.out.free 0
    have hlx := HCX.out.lt
    have HF := Lib.hid (HEND.out w1 a l.length c l #[.int .i64 4] HMX.out HRX.out hlx HCX.out)
    go_wp2_with fail
    refine bodyPost_ret (v := .tuple #[.agg #[.slice a l.length c], .int .i64 4]) (by simp [results, Try.results34, go_sem, f0, f1, hlx]) rfl HF.out
  · rw [if_neg h0] at hR
    subst hR
    have h0' : 0 ≤ q := by omega
    go_wp2_with fail
    (with_reducible refine (WO.out _ ?_).mono ?_)
    · exact HRX.out
    rintro e w2 ⟨v2, rfl, hm2, hr2⟩
    obtain ⟨ga, gc, rfl⟩ := Rw.own_slice hr2
    have HMX := Lib.hid (HMX.out.trans0 hm2)
    have HCX := Lib.hid (HCX.out.mod hm2 (by simp))
    have HRX := Lib.hid (hr2.base (Nat.zero_le _))
    clear hm2 hr2
    have f0 := HCX.out.cell 0
    have f1 := HCX.out.free 0
    have hlx := HCX.out.lt
    have HF := Lib.hid (HEND.out w2 ga (woL l id).length gc (woL l id) #[.int .i64 0] HMX.out HRX.out hlx HCX.out)
    go_wp2_with fail
    refine bodyPost_ret (v := .tuple #[.agg #[.slice ga (woL l id).length gc], .int .i64 0]) (by simp [results, Try.results34, go_sem, f0, f1, hlx]) rfl HF.out

set_option maxHeartbeats 2000000 in
theorem rtake_calls (b : Nat) (v : Value) (l : List Sn) (id seq : Int) (w : World) (h : RefAt w b v l) (hn : l.length ≤ 1000) (hq : ∀ s ∈ l, s.2 ≤ 549755813888) :
    Calls Try.prog 33 #[.agg #[v], .int .i64 id, .int .i64 seq] w (StepP (rTake l id seq).1 #[.bool (rTake l id seq).2.1, .int .i64 (rTake l id seq).2.2] w) := by
  obtain ⟨R, hR⟩ : ∃ R, R = rTake l id seq := ⟨_, rfl⟩
  rw [← hR]
  unfold rTake at hR
  have WO := Lib.hid (fun w h => without_calls 0 v l id w h hn)
  have WT := Lib.hid (fun v w h => with_calls 0 v (woL l id) id seq w h (Nat.le_trans (List.length_filter_le _ _) hn))
  have hqb : seqF l id ≤ 549755813888 := by
    unfold seqF
    cases hf : l.find? (fun s => s.1 == id) with
    | none => show (-1 : Int) ≤ _; omega
    | some s => exact hq s (List.mem_of_find?_eq_some hf)
  clear hq
  have HR := Lib.hid h
  obtain ⟨a, c, rfl⟩ := Rw.own_slice h
  have HM0 := Lib.hid (((Mod.refl w []).alloc (.cells #[.slice a l.length c] 64)).alloc (.cells #[.slice none 0 0] 64))
  have HB0 := Lib.hid ((Blk.new w #[.slice a l.length c] 64).alloc (.cells #[.slice none 0 0] 64))
  have hc0 := Blk.new (w.alloc (.cells #[.slice a l.length c] 64)) #[.slice none 0 0] 64
  rw [World.size_alloc] at hc0
  have HC0 := Lib.hid hc0
  have hn' : (l.length : Int) ≤ 1000 := by omega
  have SQ := Lib.hid (fun w h => seq_calls 0 (.slice a l.length c) l id w h hn)
  have HEND : Hid (∀ x ga k gc l' r, Mod w x [] → RefAt x 0 (.slice ga k gc) l' → w.heap.size + 1 < x.heap.size → Blk x (w.heap.size + 1) #[.slice none 0 0] 64 → StepP l' r w (.returned (.tuple (#[.agg #[.slice ga k gc]] ++ r))) (x.setCell ⟨w.heap.size + 1, 0, none⟩ (.slice ga k gc))) :=
    Lib.hid (fun x ga k gc l' r hm hr hl hb => StepP.mk rfl (hm.setCell (.inr (by show w.heap.size ≤ w.heap.size + 1; omega)) _) (set_ref hr hb))
  clear h hc0
  generalize seqF l id = q at *
  have HRR := Lib.hid hR
  clear hR
  go_enter Try.func33, Try.ntmps33
  go_wp2_with fail
  (with_reducible refine (SQ.out _ ?_).mono ?_)
  · exact ((HR.out.mod HM0.out (by simp)).base (Nat.zero_le _))
  rintro e w1 ⟨rfl, hm1⟩
  have HMX := Lib.hid (HM0.out.trans0 hm1)
  have HCX := Lib.hid (HC0.out.mod hm1 (by simp))
  have HBX := Lib.hid (HB0.out.mod hm1 (by simp))
  have HRX := Lib.hid ((HR.out.mod HMX.out (by simp)).base (Nat.zero_le _))
  have b0 := HBX.out.cell 0
  clear hm1
  have hR := HRR.out
  clear HRR
  by_cases h0 : q < 0
  · rw [if_pos h0] at hR
    subst hR
    have f0 := HCX.out.cell 0
    have f1 := HCX.out.free 0
    have hlx := HCX.out.lt
    have HF := Lib.hid (HEND.out w1 a l.length c l #[.bool false, .int .i64 4] HMX.out HRX.out hlx HCX.out)
    go_wp2_with fail
    refine bodyPost_ret (v := .tuple #[.agg #[.slice a l.length c], .bool false, .int .i64 4]) (by simp [results, Try.results33, go_sem, f0, f1, hlx]) rfl HF.out
  · rw [if_neg h0] at hR
    have h0' : 0 ≤ q := by omega
    by_cases hb : seq < 1 ∨ 549755813888 < seq
    · rw [if_pos hb] at hR
      subst hR
      rcases (by omega : seq < 1 ∨ (1 ≤ seq ∧ 549755813888 < seq)) with k1 | ⟨k1, k2⟩
      all_goals
        have f0 := HCX.out.cell 0
        have f1 := HCX.out.free 0
        have hlx := HCX.out.lt
        have HF := Lib.hid (HEND.out w1 a l.length c l #[.bool false, .int .i64 1] HMX.out HRX.out hlx HCX.out)
        go_wp2_with fail
        refine bodyPost_ret (v := .tuple #[.agg #[.slice a l.length c], .bool false, .int .i64 1]) (by simp [results, Try.results33, go_sem, f0, f1, hlx]) rfl HF.out
    · rw [if_neg hb] at hR
      have k1 : 1 ≤ seq := by omega
      have k2 : seq ≤ 549755813888 := by omega
      clear hb
      by_cases h1 : seq ≤ q
      · rw [if_pos h1] at hR
        subst hR
        have f0 := HCX.out.cell 0
        have f1 := HCX.out.free 0
        have hlx := HCX.out.lt
        have HF := Lib.hid (HEND.out w1 a l.length c l #[.bool false, .int .i64 0] HMX.out HRX.out hlx HCX.out)
        go_wp2_with fail
        refine bodyPost_ret (v := .tuple #[.agg #[.slice a l.length c], .bool false, .int .i64 0]) (by simp [results, Try.results33, go_sem, f0, f1, hlx]) rfl HF.out
      · rw [if_neg h1] at hR
        have h1' : q < seq := by omega
        have hqw := IntWalk.i64_in (q + 1) (by omega)
        by_cases h2 : q + 1 < seq
        · rw [if_pos h2] at hR
          subst hR
          have f0 := HCX.out.cell 0
          have f1 := HCX.out.free 0
          have hlx := HCX.out.lt
          have HF := Lib.hid (HEND.out w1 a l.length c l #[.bool false, .int .i64 170] HMX.out HRX.out hlx HCX.out)
          go_wp2_with fail
          refine bodyPost_ret (v := .tuple #[.agg #[.slice a l.length c], .bool false, .int .i64 170]) (by simp [results, Try.results33, go_sem, f0, f1, hlx]) rfl HF.out
        · rw [if_neg h2] at hR
          subst hR
          have h2' : seq ≤ q + 1 := by omega
          go_wp2_with fail
          (with_reducible refine (WO.out _ ?_).mono ?_)
          · exact HRX.out
          rintro e w2 ⟨v2, rfl, hm2, hr2⟩
          have HMX := Lib.hid (HMX.out.trans0 hm2)
          have HCX := Lib.hid (HCX.out.mod hm2 (by simp))
          have HRY := Lib.hid (hr2.base (Nat.zero_le _))
          clear hm2 hr2
          go_wp2_with fail
          (with_reducible refine (WT.out _ _ ?_).mono ?_)
          · exact HRY.out
          rintro e w3 ⟨v3, rfl, hm3, hr3⟩
          obtain ⟨ga, gc, rfl⟩ := Rw.own_slice hr3
          have HMX := Lib.hid (HMX.out.trans0 hm3)
          have HCX := Lib.hid (HCX.out.mod hm3 (by simp))
          have HRX := Lib.hid (hr3.base (Nat.zero_le _))
          clear hm3 hr3
          have f0 := HCX.out.cell 0
          have f1 := HCX.out.free 0
          have hlx := HCX.out.lt
          have HF := Lib.hid (HEND.out w3 ga (withL (woL l id) (id, seq)).length gc (withL (woL l id) (id, seq)) #[.bool true, .int .i64 0] HMX.out HRX.out hlx HCX.out)
          go_wp2_with fail
          refine bodyPost_ret (v := .tuple #[.agg #[.slice ga (withL (woL l id) (id, seq)).length gc], .bool true, .int .i64 0]) (by simp [results, Try.results33, go_sem, f0, f1, hlx]) rfl HF.out
end Go.Proofs.Ytcbafomhifdgpaa.Ss
end

section
/- The law SessReads. -/
namespace Go.Proofs.Ytcbafomhifdgpaa.Ss
open Go.RowKit Mem Si Bits
set_option linter.unusedSimpArgs false
set_option linter.unusedVariables false
set_option maxRecDepth 100000
attribute [local go_sem ↓] Go.wp_at_zero Go.wp_at_succ
theorem refs_nil (w : World) : Calls Try.prog 26 #[.slice none 0 0] w fun e w' => e = .returned (.slice none 0 0) ∧ Mod w w' [] := by
  go_enter Try.func26, Try.ntmps26
  go_wp2_with fail
  go_loopw [3, 4] (fun vl vi wr => vl = .slice none 0 0 ∧ vi = .int .i64 0 ∧ Mod w wr []) (fun _ _ _ => 1)
  case atStart => exact ⟨rfl, rfl, Mod.refl _ _⟩
  case round =>
    obtain ⟨rfl, rfl, hm⟩ := hrel
    go_wp2_with fail
    go_ret
    exact ⟨rfl, hm⟩
theorem same_nil (w : World) : Calls Try.prog 25 #[.slice none 0 0, .slice none 0 0] w fun e w' => e = .returned (.bool true) ∧ Mod w w' [] :=
  same_calls w.heap.size w.heap.size (.slice none 0 0) (.slice none 0 0) [] [] w (World.ownsRow_nil _ _ _ _) (World.ownsRow_nil _ _ _ _) (by simp) (by simp)
set_option maxHeartbeats 4000000 in
theorem sessReads_calls (s : ByteArray) (hs : s.size ≤ 140737488351232) (w : World) :
    Calls Try.prog 10 #[.string s] w fun e w' => e = .returned (.bool true) ∧ Below w.heap.size w w' := by
  have AW := Lib.hid awake_calls
  have RC := Lib.hid (fun w => read_calls s hs w)
  have FC := Lib.hid (fun w => rread_calls s hs w)
  by_cases hbig : 5000 < s.size
  · have hb' : (5000 : Int) < s.size := by omega
    go_enter Try.func10, Try.ntmps10
    go_wp2_with fail
    (with_reducible refine (AW.out _).mono ?_)
    rintro e w1 ⟨rfl, hm1⟩
    have HM := Lib.hid hm1
    clear hm1
    go_wp2_with fail
    go_ret
    exact ⟨rfl, HM.out.below0⟩
  have hb' : (s.size : Int) ≤ 5000 := by omega
  cases hr : readT s with
  | none =>
    have RC1 : Hid (∀ w, Calls Try.prog 30 #[.string s] w fun e w' => e = .returned (.tuple #[.pointer none, .int .i64 3]) ∧ Mod w w' []) := Lib.hid (fun w => (RC.out w).mono fun e w' h => by unfold ReadP at h; rw [hr] at h; exact h)
    have FC1 : Hid (∀ w, Calls Try.prog 31 #[.string s] w fun e w' => e = .returned (.tuple #[.agg #[.slice none 0 0], .int .i64 3]) ∧ Mod w w' []) := Lib.hid (fun w => (FC.out w).mono fun e w' h => by unfold RReadP at h; rw [hr] at h; exact h)
    clear RC FC hr
    go_enter Try.func10, Try.ntmps10
    go_wp2_with fail
    (with_reducible refine (RC1.out _).mono ?_)
    rintro e w1 ⟨rfl, hm1⟩
    have HM1 := Lib.hid hm1
    clear hm1
    go_wp2_with fail
    (with_reducible refine (FC1.out _).mono ?_)
    rintro e w2 ⟨rfl, hm2⟩
    have HM2 := Lib.hid ((HM1.out.trans0 hm2).alloc (.cells #[.slice none 0 0] 64))
    have HB2 := Lib.hid (Blk.new w2 #[.slice none 0 0] 64)
    clear hm2 HM1
    go_wp2_with fail
    generalize w2.alloc _ = W at HM2 HB2 ⊢
    have c0 := HB2.out.cell 0
    refine Fx.wp_region_f [] (fun _ w' => Mod W w' []) (by kernel_rfl) (by decide) (Mod.refl _ _).drew ?_
    have hSS : ∀ (m' : Nat) w', Mod W w' [] → _ := fun m' w' h => keepC h c0
    refine Fx.call' (i := 0) rfl (by kernel_rfl) (by kernel_rfl) (by rfl) ?_
    apply Exists.intro
    apply Exists.intro
    apply Exists.intro
    refine ⟨?_, ?_, ?_⟩
    · (intro w'; go_simp; first | done | (refine ⟨?_, ?_⟩ <;> with_reducible rfl) | with_reducible rfl)
    · (exact fun m w' h => (AW.out w').mono fun _ _ ⟨he, hw⟩ => ⟨he, h.trans0 hw⟩)
    try simp only [List.getElem_toArray, List.getElem_cons_succ, List.getElem_cons_zero, Act.put, List.setIfInBounds_toArray, List.set_cons_zero, List.set_cons_succ]
    refine Fx.take (i := 1) (v := ?_) _ rfl (by kernel_rfl) (by kernel_rfl) (by rfl) hSS ?_ ?_
    rotate_left
    · (intro w' hSw; (try dsimp only at hSw); go_simp; first | done | with_reducible rfl)
    try simp only [List.getElem_toArray, List.getElem_cons_succ, List.getElem_cons_zero, Act.put, List.setIfInBounds_toArray, List.set_cons_zero, List.set_cons_succ]
    refine Fx.take (i := 2) (v := ?_) _ rfl (by kernel_rfl) (by kernel_rfl) (by rfl) hSS ?_ ?_
    rotate_left
    · (intro w' hSw; (try dsimp only at hSw); go_simp; first | done | with_reducible rfl)
    try simp only [List.getElem_toArray, List.getElem_cons_succ, List.getElem_cons_zero, Act.put, List.setIfInBounds_toArray, List.set_cons_zero, List.set_cons_succ]
    refine Fx.call' (i := 3) rfl (by kernel_rfl) (by kernel_rfl) (by rfl) ?_
    apply Exists.intro
    apply Exists.intro
    apply Exists.intro
    refine ⟨?_, ?_, ?_⟩
    · (intro w'; go_simp; first | done | (refine ⟨?_, ?_⟩ <;> with_reducible rfl) | with_reducible rfl)
    · (exact fun m w' h => (all_nil w').mono fun _ _ ⟨he, hw⟩ => ⟨he, hw ▸ h⟩)
    try simp only [List.getElem_toArray, List.getElem_cons_succ, List.getElem_cons_zero, Act.put, List.setIfInBounds_toArray, List.set_cons_zero, List.set_cons_succ]
    refine Fx.call' (i := 4) rfl (by kernel_rfl) (by kernel_rfl) (by rfl) ?_
    apply Exists.intro
    apply Exists.intro
    apply Exists.intro
    refine ⟨?_, ?_, ?_⟩
    · (intro w'; go_simp; first | done | (refine ⟨?_, ?_⟩ <;> with_reducible rfl) | with_reducible rfl)
    · (exact fun m w' h => (refs_nil w').mono fun _ _ ⟨he, hw⟩ => ⟨he, h.trans0 hw⟩)
    try simp only [List.getElem_toArray, List.getElem_cons_succ, List.getElem_cons_zero, Act.put, List.setIfInBounds_toArray, List.set_cons_zero, List.set_cons_succ]
    refine Fx.take (i := 5) (v := ?_) _ rfl (by kernel_rfl) (by kernel_rfl) (by rfl) hSS ?_ ?_
    rotate_left
    · (intro w' hSw; (try dsimp only at hSw); go_simp; first | done | with_reducible rfl)
    try simp only [List.getElem_toArray, List.getElem_cons_succ, List.getElem_cons_zero, Act.put, List.setIfInBounds_toArray, List.set_cons_zero, List.set_cons_succ]
    refine Fx.take (i := 6) (v := ?_) _ rfl (by kernel_rfl) (by kernel_rfl) (by rfl) hSS ?_ ?_
    rotate_left
    · (intro w' hSw; (try dsimp only at hSw); go_simp; first | done | with_reducible rfl)
    try simp only [List.getElem_toArray, List.getElem_cons_succ, List.getElem_cons_zero, Act.put, List.setIfInBounds_toArray, List.set_cons_zero, List.set_cons_succ]
    refine Fx.call' (i := 7) rfl (by kernel_rfl) (by kernel_rfl) (by rfl) ?_
    apply Exists.intro
    apply Exists.intro
    apply Exists.intro
    refine ⟨?_, ?_, ?_⟩
    · (intro w'; go_simp; first | done | (refine ⟨?_, ?_⟩ <;> with_reducible rfl) | with_reducible rfl)
    · (exact fun m w' h => (same_nil w').mono fun _ _ ⟨he, hw⟩ => ⟨he, h.trans0 hw⟩)
    try simp only [List.getElem_toArray, List.getElem_cons_succ, List.getElem_cons_zero, Act.put, List.setIfInBounds_toArray, List.set_cons_zero, List.set_cons_succ]
    refine Fx.take (i := 8) (v := ?_) _ rfl (by kernel_rfl) (by kernel_rfl) (by rfl) hSS ?_ ?_
    rotate_left
    · (intro w' hSw; (try dsimp only at hSw); go_simp; first | done | with_reducible rfl)
    try simp only [List.getElem_toArray, List.getElem_cons_succ, List.getElem_cons_zero, Act.put, List.setIfInBounds_toArray, List.set_cons_zero, List.set_cons_succ]
    refine Fx.take (i := 9) (v := ?_) _ rfl (by kernel_rfl) (by kernel_rfl) (by rfl) hSS ?_ ?_
    rotate_left
    · (intro w' hSw; (try dsimp only at hSw); go_simp; first | done | with_reducible rfl)
    try simp only [List.getElem_toArray, List.getElem_cons_succ, List.getElem_cons_zero, Act.put, List.setIfInBounds_toArray, List.set_cons_zero, List.set_cons_succ]
    refine Fx.take (i := 10) (v := ?_) _ rfl (by kernel_rfl) (by kernel_rfl) (by rfl) hSS ?_ ?_
    rotate_left
    · (intro w' hSw; (try dsimp only at hSw); go_simp; first | done | with_reducible rfl)
    try simp only [List.getElem_toArray, List.getElem_cons_succ, List.getElem_cons_zero, Act.put, List.setIfInBounds_toArray, List.set_cons_zero, List.set_cons_succ]
    refine Fx.take (i := 11) (v := ?_) _ rfl (by kernel_rfl) (by kernel_rfl) (by rfl) hSS ?_ ?_
    rotate_left
    · (intro w' hSw; (try dsimp only at hSw); go_simp; first | done | with_reducible rfl)
    try simp only [List.getElem_toArray, List.getElem_cons_succ, List.getElem_cons_zero, Act.put, List.setIfInBounds_toArray, List.set_cons_zero, List.set_cons_succ]
    refine Fx.take (i := 12) (v := ?_) _ rfl (by kernel_rfl) (by kernel_rfl) (by rfl) hSS ?_ ?_
    rotate_left
    · (intro w' hSw; (try dsimp only at hSw); go_simp; first | done | with_reducible rfl)
    try simp only [List.getElem_toArray, List.getElem_cons_succ, List.getElem_cons_zero, Act.put, List.setIfInBounds_toArray, List.set_cons_zero, List.set_cons_succ]
    refine Fx.skip (i := 13) rfl (by kernel_rfl) (by kernel_rfl) (by rfl) ?_
    try simp only [List.getElem_toArray, List.getElem_cons_succ, List.getElem_cons_zero, Act.put, List.setIfInBounds_toArray, List.set_cons_zero, List.set_cons_succ]
    refine Fx.skip (i := 14) rfl (by kernel_rfl) (by kernel_rfl) (by rfl) ?_
    try simp only [List.getElem_toArray, List.getElem_cons_succ, List.getElem_cons_zero, Act.put, List.setIfInBounds_toArray, List.set_cons_zero, List.set_cons_succ]
    refine Fx.skip (i := 15) rfl (by kernel_rfl) (by kernel_rfl) (by rfl) ?_
    try simp only [List.getElem_toArray, List.getElem_cons_succ, List.getElem_cons_zero, Act.put, List.setIfInBounds_toArray, List.set_cons_zero, List.set_cons_succ]
    refine Fx.skip (i := 16) rfl (by kernel_rfl) (by kernel_rfl) (by rfl) ?_
    try simp only [List.getElem_toArray, List.getElem_cons_succ, List.getElem_cons_zero, Act.put, List.setIfInBounds_toArray, List.set_cons_zero, List.set_cons_succ]
    refine Fx.take (i := 17) (v := ?_) _ rfl (by kernel_rfl) (by kernel_rfl) (by rfl) hSS ?_ ?_
    rotate_left
    · (intro w' hSw; (try dsimp only at hSw); go_simp; first | done | with_reducible rfl)
    try simp only [List.getElem_toArray, List.getElem_cons_succ, List.getElem_cons_zero, Act.put, List.setIfInBounds_toArray, List.set_cons_zero, List.set_cons_succ]
    refine Fx.take (i := 18) (v := ?_) _ rfl (by kernel_rfl) (by kernel_rfl) (by rfl) hSS ?_ ?_
    rotate_left
    · (intro w' hSw; (try dsimp only at hSw); go_simp; first | done | with_reducible rfl)
    try simp only [List.getElem_toArray, List.getElem_cons_succ, List.getElem_cons_zero, Act.put, List.setIfInBounds_toArray, List.set_cons_zero, List.set_cons_succ]
    refine Fx.take (i := 19) (v := ?_) _ rfl (by kernel_rfl) (by kernel_rfl) (by rfl) hSS ?_ ?_
    rotate_left
    · (intro w' hSw; (try dsimp only at hSw); go_simp; first | done | with_reducible rfl)
    try simp only [List.getElem_toArray, List.getElem_cons_succ, List.getElem_cons_zero, Act.put, List.setIfInBounds_toArray, List.set_cons_zero, List.set_cons_succ]
    refine Fx.done 0 (by kernel_rfl) (by kernel_rfl) (fun w4 hC => ?_)
    have HM4 := Lib.hid (HM2.out.trans0 hC)
    clear hC c0 hSS
    go_wp2_with fail
    go_ret
    exact ⟨rfl, HM4.out.below0⟩
  | some l =>
    obtain ⟨hg, ht⟩ := readT_good hr
    have hlen : l.length ≤ 1000 := by have := hg.len; omega
    have hsb := hg.sb
    have RC1 : Hid (∀ w, Calls Try.prog 30 #[.string s] w fun e w' => ∃ t v, e = .returned (.tuple #[.pointer (some ⟨t, 0, none⟩), .int .i64 0]) ∧ Mod w w' [] ∧ w.heap.size ≤ t ∧ TabAt w' t v l) := Lib.hid (fun w => (RC.out w).mono fun e w' h => by unfold ReadP at h; rw [hr] at h; exact h)
    have FC1 : Hid (∀ w, Calls Try.prog 31 #[.string s] w fun e w' => ∃ v, e = .returned (.tuple #[.agg #[v], .int .i64 0]) ∧ Mod w w' [] ∧ RefAt w' w.heap.size v l) := Lib.hid (fun w => (FC.out w).mono fun e w' h => by unfold RReadP at h; rw [hr] at h; exact h)
    have AC := Lib.hid (fun t v w h => all_calls t v l w h hlen)
    have RF := Lib.hid (fun base v w h => refs_calls base v l w h hlen)
    have SC := Lib.hid (fun b1 b2 v1 v2 w h1 h2 => same_calls b1 b2 v1 v2 l l w h1 h2 hlen hlen)
    have TX := Lib.hid (fun t v w h => text_calls t v l w h hlen hsb)
    rw [ht] at TX
    rw [decide_eq_true (rfl : l = l)] at SC
    have hq : (s.toList == s.toList) = true := by simp
    clear RC FC hr ht hsb hg
    go_enter Try.func10, Try.ntmps10
    go_wp2_with fail
    (with_reducible refine (RC1.out _).mono ?_)
    rintro e w1 ⟨t, tv, rfl, hm1, htl, hta⟩
    have HM1 := Lib.hid hm1
    have HT1 := Lib.hid hta
    clear hm1 hta
    go_wp2_with fail
    (with_reducible refine (FC1.out _).mono ?_)
    rintro e w2 ⟨rv, rfl, hm2, hra⟩
    obtain ⟨ra, rc, rfl⟩ := Rw.own_slice hra
    have HM2 := Lib.hid ((HM1.out.trans0 hm2).alloc (.cells #[.slice ra l.length rc] 64))
    have HM12 := hm2.alloc (.cells #[.slice ra l.length rc] 64)
    have HT2 := Lib.hid (HT1.out.mod HM12 (by simp) (by simp))
    have HR2 := Lib.hid (hra.mod ((Mod.refl w2 []).alloc (.cells #[.slice ra l.length rc] 64)) (by simp))
    have HB2 := Lib.hid (Blk.new w2 #[.slice ra l.length rc] 64)
    clear hm2 HM1 HM12 HT1 hra
    go_wp2_with fail
    generalize w2.alloc _ = W at HM2 HB2 HT2 HR2 ⊢
    have c0 := HB2.out.cell 0
    refine He.wp_region_e 19 (fun w' => w'.cell? ⟨w2.heap.size, 0, none⟩ = some (.slice ra l.length rc)) (by kernel_rfl) (keepC (Mod.refl _ _).drew c0) (fun S0 => ?_)
    refine He.wpE_one (i := 0) (by kernel_rfl) rfl (by rfl) (fun K hK => ?_)
    go_simp
    refine (AW.out _).mono ?_
    rintro e w3 ⟨rfl, hm3⟩
    have HM3 := Lib.hid (((Mod.refl W []).drew.trans0 hm3))
    have S1 := keepC HM3.out c0
    refine hK.out _ _ (fun _ => S1) ?_
    clear hK K hm3
    try simp only [Act.put, List.setIfInBounds_toArray, List.set_cons_zero, List.set_cons_succ]
    refine He.wpE_take (i := 1) (v := ?_) rfl (by kernel_rfl) (by kernel_rfl) (by kernel_rfl) (by kernel_rfl) (by kernel_rfl) (fun _ _ _ h => h) (by rfl) ?_ (by assumption) ?_
    rotate_left
    · (intro w' hSw; (try dsimp only at hSw); go_simp; first | done | with_reducible rfl)
    try simp only [List.getElem_toArray, List.getElem_cons_succ, List.getElem_cons_zero, Act.put, List.setIfInBounds_toArray, List.set_cons_zero, List.set_cons_succ]
    refine He.wpE_take (i := 2) (v := ?_) rfl (by kernel_rfl) (by kernel_rfl) (by kernel_rfl) (by kernel_rfl) (by kernel_rfl) (fun _ _ _ h => h) (by rfl) ?_ (by assumption) ?_
    rotate_left
    · (intro w' hSw; (try dsimp only at hSw); go_simp; first | done | with_reducible rfl)
    try simp only [List.getElem_toArray, List.getElem_cons_succ, List.getElem_cons_zero, Act.put, List.setIfInBounds_toArray, List.set_cons_zero, List.set_cons_succ]
    refine He.wpE_take (i := 5) (v := ?_) rfl (by kernel_rfl) (by kernel_rfl) (by kernel_rfl) (by kernel_rfl) (by kernel_rfl) (fun _ _ _ h => h) (by rfl) ?_ (by assumption) ?_
    rotate_left
    · (intro w' hSw; (try dsimp only at hSw); go_simp; first | done | with_reducible rfl)
    try simp only [List.getElem_toArray, List.getElem_cons_succ, List.getElem_cons_zero, Act.put, List.setIfInBounds_toArray, List.set_cons_zero, List.set_cons_succ]
    refine He.wpE_take (i := 6) (v := ?_) rfl (by kernel_rfl) (by kernel_rfl) (by kernel_rfl) (by kernel_rfl) (by kernel_rfl) (fun _ _ _ h => h) (by rfl) ?_ (by assumption) ?_
    rotate_left
    · (intro w' hSw; (try dsimp only at hSw); go_simp; first | done | with_reducible rfl)
    try simp only [List.getElem_toArray, List.getElem_cons_succ, List.getElem_cons_zero, Act.put, List.setIfInBounds_toArray, List.set_cons_zero, List.set_cons_succ]
    refine He.wpE_one (i := 3) (by kernel_rfl) rfl (by rfl) (fun K hK => ?_)
    go_simp
    refine (AC.out _ _ _ (HT2.out.mod HM3.out (by simp) (by simp))).mono ?_
    rintro e w4 ⟨v4, rfl, hm4, hr4⟩
    have HM4 := Lib.hid (HM3.out.trans0 hm4)
    have S2 := keepC HM4.out c0
    have HR4 := Lib.hid hr4
    refine hK.out _ _ (fun _ => S2) ?_
    clear hK K hm4 hr4
    try simp only [Act.put, List.setIfInBounds_toArray, List.set_cons_zero, List.set_cons_succ]
    refine He.wpE_one (i := 4) (by kernel_rfl) rfl (by rfl) (fun K hK => ?_)
    go_simp
    refine (RF.out _ _ _ HR4.out).mono ?_
    rintro e w5 ⟨v5, rfl, hm5, hr5⟩
    have HM5 := Lib.hid (HM4.out.trans0 hm5)
    have S3 := keepC HM5.out c0
    have HR5 := Lib.hid hr5
    refine hK.out _ _ (fun _ => S3) ?_
    clear hK K hm5 hr5
    try simp only [Act.put, List.setIfInBounds_toArray, List.set_cons_zero, List.set_cons_succ]
    refine He.wpE_one (i := 7) (by kernel_rfl) rfl (by rfl) (fun K hK => ?_)
    go_simp
    refine (SC.out _ _ _ _ _ HR5.out (HR2.out.mod HM5.out (by simp))).mono ?_
    rintro e w6 ⟨rfl, hm6⟩
    have HM6 := Lib.hid (HM5.out.trans0 hm6)
    have S4 := keepC HM6.out c0
    refine hK.out _ _ (fun _ => S4) ?_
    clear hK K hm6
    try simp only [Act.put, List.setIfInBounds_toArray, List.set_cons_zero, List.set_cons_succ]
    refine He.wpE_take (i := 8) (v := ?_) rfl (by kernel_rfl) (by kernel_rfl) (by kernel_rfl) (by kernel_rfl) (by kernel_rfl) (fun _ _ _ h => h) (by rfl) ?_ (by assumption) ?_
    rotate_left
    · (intro w' hSw; (try dsimp only at hSw); go_simp; first | done | with_reducible rfl)
    try simp only [List.getElem_toArray, List.getElem_cons_succ, List.getElem_cons_zero, Act.put, List.setIfInBounds_toArray, List.set_cons_zero, List.set_cons_succ]
    refine He.wpE_take (i := 9) (v := ?_) rfl (by kernel_rfl) (by kernel_rfl) (by kernel_rfl) (by kernel_rfl) (by kernel_rfl) (fun _ _ _ h => h) (by rfl) ?_ (by assumption) ?_
    rotate_left
    · (intro w' hSw; (try dsimp only at hSw); go_simp; first | done | with_reducible rfl)
    try simp only [List.getElem_toArray, List.getElem_cons_succ, List.getElem_cons_zero, Act.put, List.setIfInBounds_toArray, List.set_cons_zero, List.set_cons_succ]
    refine He.wpE_take (i := 10) (v := ?_) rfl (by kernel_rfl) (by kernel_rfl) (by kernel_rfl) (by kernel_rfl) (by kernel_rfl) (fun _ _ _ h => h) (by rfl) ?_ (by assumption) ?_
    rotate_left
    · (intro w' hSw; (try dsimp only at hSw); go_simp; first | done | with_reducible rfl)
    try simp only [List.getElem_toArray, List.getElem_cons_succ, List.getElem_cons_zero, Act.put, List.setIfInBounds_toArray, List.set_cons_zero, List.set_cons_succ]
    refine He.wpE_take (i := 11) (v := ?_) rfl (by kernel_rfl) (by kernel_rfl) (by kernel_rfl) (by kernel_rfl) (by kernel_rfl) (fun _ _ _ h => h) (by rfl) ?_ (by assumption) ?_
    rotate_left
    · (intro w' hSw; (try dsimp only at hSw); go_simp; first | done | with_reducible rfl)
    try simp only [List.getElem_toArray, List.getElem_cons_succ, List.getElem_cons_zero, Act.put, List.setIfInBounds_toArray, List.set_cons_zero, List.set_cons_succ]
    refine He.wpE_take (i := 12) (v := ?_) rfl (by kernel_rfl) (by kernel_rfl) (by kernel_rfl) (by kernel_rfl) (by kernel_rfl) (fun _ _ _ h => h) (by rfl) ?_ (by assumption) ?_
    rotate_left
    · (intro w' hSw; (try dsimp only at hSw); go_simp; first | done | with_reducible rfl)
    try simp only [List.getElem_toArray, List.getElem_cons_succ, List.getElem_cons_zero, Act.put, List.setIfInBounds_toArray, List.set_cons_zero, List.set_cons_succ]
    refine He.wpE_take (i := 13) (v := ?_) rfl (by kernel_rfl) (by kernel_rfl) (by kernel_rfl) (by kernel_rfl) (by kernel_rfl) (fun _ _ _ h => h) (by rfl) ?_ (by assumption) ?_
    rotate_left
    · (intro w' hSw; (try dsimp only at hSw); go_simp; first | done | with_reducible rfl)
    try simp only [List.getElem_toArray, List.getElem_cons_succ, List.getElem_cons_zero, Act.put, List.setIfInBounds_toArray, List.set_cons_zero, List.set_cons_succ]
    refine He.wpE_take (i := 15) (v := ?_) rfl (by kernel_rfl) (by kernel_rfl) (by kernel_rfl) (by kernel_rfl) (by kernel_rfl) (fun _ _ _ h => h) (by rfl) ?_ (by assumption) ?_
    rotate_left
    · (intro w' hSw; (try dsimp only at hSw); go_simp; first | done | with_reducible rfl)
    try simp only [List.getElem_toArray, List.getElem_cons_succ, List.getElem_cons_zero, Act.put, List.setIfInBounds_toArray, List.set_cons_zero, List.set_cons_succ]
    refine He.wpE_one (i := 14) (by kernel_rfl) rfl (by rfl) (fun K hK => ?_)
    go_simp
    refine (TX.out _ _ _ (HT2.out.mod HM6.out (by simp) (by simp))).mono ?_
    rintro e w7 ⟨rfl, hm7⟩
    have HM7 := Lib.hid (HM6.out.trans0 hm7)
    have S5 := keepC HM7.out c0
    refine hK.out _ _ (fun _ => S5) ?_
    clear hK K hm7
    try simp only [Act.put, List.setIfInBounds_toArray, List.set_cons_zero, List.set_cons_succ]
    refine He.wpE_take (i := 16) (v := ?_) rfl (by kernel_rfl) (by kernel_rfl) (by kernel_rfl) (by kernel_rfl) (by kernel_rfl) (fun _ _ _ h => h) (by rfl) ?_ (by assumption) ?_
    rotate_left
    · (intro w' hSw; (try dsimp only at hSw); go_simp; first | done | with_reducible rfl)
    try simp only [List.getElem_toArray, List.getElem_cons_succ, List.getElem_cons_zero, Act.put, List.setIfInBounds_toArray, List.set_cons_zero, List.set_cons_succ]
    refine He.wpE_take (i := 17) (v := ?_) rfl (by kernel_rfl) (by kernel_rfl) (by kernel_rfl) (by kernel_rfl) (by kernel_rfl) (fun _ _ _ h => h) (by rfl) ?_ (by assumption) ?_
    rotate_left
    · (intro w' hSw; (try dsimp only at hSw); go_simp; first | done | with_reducible rfl)
    try simp only [List.getElem_toArray, List.getElem_cons_succ, List.getElem_cons_zero, Act.put, List.setIfInBounds_toArray, List.set_cons_zero, List.set_cons_succ]
    refine He.wpE_take (i := 18) (v := ?_) rfl (by kernel_rfl) (by kernel_rfl) (by kernel_rfl) (by kernel_rfl) (by kernel_rfl) (fun _ _ _ h => h) (by rfl) ?_ (by assumption) ?_
    rotate_left
    · (intro w' hSw; (try dsimp only at hSw); go_simp; first | done | with_reducible rfl)
    try simp only [List.getElem_toArray, List.getElem_cons_succ, List.getElem_cons_zero, Act.put, List.setIfInBounds_toArray, List.set_cons_zero, List.set_cons_succ]
    refine He.wpE_take (i := 19) (v := ?_) rfl (by kernel_rfl) (by kernel_rfl) (by kernel_rfl) (by kernel_rfl) (by kernel_rfl) (fun _ _ _ h => h) (by rfl) ?_ (by assumption) ?_
    rotate_left
    · (intro w' hSw; (try dsimp only at hSw); go_simp; first | done | with_reducible rfl)
    try simp only [List.getElem_toArray, List.getElem_cons_succ, List.getElem_cons_zero, Act.put, List.setIfInBounds_toArray, List.set_cons_zero, List.set_cons_succ]
    refine He.wpE_done (by kernel_rfl) ?_
    try simp only [Act.put, List.setIfInBounds_toArray, List.set_cons_zero, List.set_cons_succ]
    have HM8 := Lib.hid (HM2.out.trans0 HM7.out)
    go_wp2_with fail
    go_ret
    exact ⟨rfl, HM8.out.below0⟩
end Go.Proofs.Ytcbafomhifdgpaa.Ss
end

section
/- The law SessApart. -/
namespace Go.Proofs.Ytcbafomhifdgpaa.Ss
open Go.RowKit Mem Si Bits
set_option linter.unusedSimpArgs false
set_option linter.unusedVariables false
set_option maxRecDepth 100000

/-- Something that is done. -/
structure Ac where
  kind : Int
  id : Int
  seq : Int
abbrev acSh : Open.Sh := .st (.cat (.int .i64) (.cat (.int .i64) (.cat (.int .i64) .nil)))
def i64B (n : Int) : Prop := -9223372036854775808 ≤ n ∧ n ≤ 9223372036854775807
def AcOK (x : Ac) : Prop := i64B x.kind ∧ i64B x.id ∧ i64B x.seq
structure Cells3 (w : World) (b o : Nat) (x : Ac) : Prop where
  c0 : w.cell? ⟨b, o, none⟩ = some (.int .i64 x.kind)
  c1 : w.cell? ⟨b, o + 1, none⟩ = some (.int .i64 x.id)
  c2 : w.cell? ⟨b, o + 2, none⟩ = some (.int .i64 x.seq)
theorem Cells3.mod {w w' : World} {b o : Nat} {x : Ac} (h : Cells3 w b o x) (m : Mod w w' []) : Cells3 w' b o x := ⟨keepC m h.c0, keepC m h.c1, keepC m h.c2⟩
theorem ac_rd {w : World} {a : Value} (h : Open.Rd w (.sl acSh 24) [a]) : ∃ (l : List Ac) (ad : Option Addr) (cap : Nat), a = .slice ad l.length cap ∧ l.length ≤ 140737488351232 ∧ (∀ x ∈ l, AcOK x) ∧
    (l = [] ∨ ∃ b off, ad = some ⟨b, off, none⟩ ∧ ∀ i (hi : i < l.length), Cells3 w b (off + i * 3) l[i]) := by
  obtain ⟨v, rows, hv, ⟨ad, cap, rfl, hc1, hc2, hn, hpos, hcell⟩, hlen, hl1, hrd⟩ := h
  obtain rfl : a = _ := by simpa using hv
  obtain ⟨l, rfl, hl⟩ := Open.rows_map (rows := rows) (fun x : Ac => [Value.int .i64 x.kind, .int .i64 x.id, .int .i64 x.seq]) AcOK (fun r hr => by
    obtain ⟨x0, y0, rfl, ⟨n0, rfl, w0⟩, x1, y1, rfl, ⟨n1, rfl, w1⟩, x2, y2, rfl, ⟨n2, rfl, w2⟩, rfl⟩ := hrd r hr
    have p0 : i64B n0 := by simpa [i64B, Lit.wf, IntKind.min, IntKind.max, IntKind.signed, IntKind.bits] using w0
    have p1 : i64B n1 := by simpa [i64B, Lit.wf, IntKind.min, IntKind.max, IntKind.signed, IntKind.bits] using w1
    have p2 : i64B n2 := by simpa [i64B, Lit.wf, IntKind.min, IntKind.max, IntKind.signed, IntKind.bits] using w2
    exact ⟨⟨n0, n1, n2⟩, rfl, p0, p1, p2⟩)
  refine ⟨l, ad, cap, by simp, by simp at hlen; omega, hl, ?_⟩
  by_cases h0 : l = []
  · exact .inl h0
  · obtain ⟨b, off, rfl⟩ := hpos (by simpa using h0) (by decide)
    refine .inr ⟨b, off, rfl, fun i hi => ?_⟩
    have h := fun c hc => (hcell b off rfl i (by simpa using hi) c hc).1
    simp only [List.getElem_map] at h
    exact ⟨h 0 (by decide), h 1 (by decide), h 2 (by decide)⟩

theorem own_blk {w : World} {base : Nat} {v : Value} {l : List Sn} (h : RowsAt w base v l) {k : Nat} (hk : v.ownBlock = some k) : ∃ cur, Blk w k cur 107 := by
  obtain ⟨h0, ⟨rfl, h1⟩ | ⟨g, cap, cur, rfl, hg, hc, h2⟩⟩ := h
  · cases hk
  · simp only [Value.ownBlock, Option.some.injEq] at hk
    subst hk
    exact ⟨cur, hc⟩
theorem blk_ty {w : World} {k : Nat} {a b : Array Value} {t u : TypeId} (h : Blk w k a t) (h2 : Blk w k b u) : t = u := by
  unfold Blk at h h2
  rw [h] at h2
  injection h2 with h2
  injection h2 with _ h2
theorem own_far {w : World} {base : Nat} {v : Value} {l : List Sn} (h : RowsAt w base v l) {k : Nat} {a : Array Value} (hb : Blk w k a 101) : v.ownBlock ≠ some k := by
  intro hk
  obtain ⟨cur, hc⟩ := own_blk h hk
  exact absurd (blk_ty hc hb) (by decide)

/-- Two tables, apart, neither of the first world's. -/
def Two (w0 w : World) (t u : Nat) (lt lu : List Sn) : Prop :=
  Mod w0 w [] ∧ w0.heap.size ≤ t ∧ w0.heap.size ≤ u ∧ t ≠ u ∧ ∃ vt vu, TabAt w t vt lt ∧ TabAt w u vu lu ∧ ∀ k, vu.ownBlock = some k → vt.ownBlock ≠ some k
theorem Two.l {w0 w : World} {t u : Nat} {lt lu : List Sn} (h : Two w0 w t u lt lu) : ∃ v, TabAt w t v lt := by
  obtain ⟨_, _, _, _, vt, vu, h4, _⟩ := h
  exact ⟨vt, h4⟩
theorem Two.r {w0 w : World} {t u : Nat} {lt lu : List Sn} (h : Two w0 w t u lt lu) : ∃ v, TabAt w u v lu := by
  obtain ⟨_, _, _, _, vt, vu, _, h5, _⟩ := h
  exact ⟨vu, h5⟩
theorem bytes_inj {a b : ByteArray} (h : a.toList = b.toList) : a = b := by
  rw [ByteArray.toList_eq, ByteArray.toList_eq] at h
  exact ByteArray.ext (Array.ext' h)
theorem Two.symm {w0 w : World} {t u : Nat} {lt lu : List Sn} (h : Two w0 w t u lt lu) : Two w0 w u t lu lt := by
  obtain ⟨hm, h1, h2, h3, vt, vu, h4, h5, h6⟩ := h
  exact ⟨hm, h2, h1, h3.symm, vu, vt, h5, h4, fun k hk hk2 => h6 k hk2 hk⟩
theorem Two.mod {w0 w w' : World} {t u : Nat} {lt lu : List Sn} (h : Two w0 w t u lt lu) (m : Mod w w' []) : Two w0 w' t u lt lu := by
  obtain ⟨hm, h1, h2, h3, vt, vu, h4, h5, h6⟩ := h
  exact ⟨hm.trans0 m, h1, h2, h3, vt, vu, h4.mod m (by simp) (by simp), h5.mod m (by simp) (by simp), h6⟩
theorem Two.call {w0 w : World} {t u : Nat} {lt lu lt' : List Sn} {f : Nat} {args : Array Value} {r : Value} (h : Two w0 w t u lt lu) (C : ∀ vt, TabAt w t vt lt → Calls Try.prog f args w fun e w' => e = .returned r ∧ TabP t vt lt' w w') :
    Calls Try.prog f args w fun e w' => e = .returned r ∧ Two w0 w' t u lt' lu := by
  obtain ⟨hm, h1, h2, h3, vt, vu, h4, h5, h6⟩ := h
  refine (C vt h4).mono ?_
  rintro e w' ⟨rfl, vt', h7, hm2, h8⟩
  have hmem : ∀ r, r ∈ t :: vt.ownBlock.toList → r = t ∨ vt.ownBlock = some r := fun r hr => by
    rcases List.mem_cons.1 hr with h | h
    · exact .inl h
    · exact .inr (by simpa using h)
  refine ⟨rfl, hm.trans hm2 (fun r hr => .inr ?_), h1, h2, h3, vt', vu, h7, h5.mod hm2 (fun hr => ?_) (fun k hk hr => ?_), fun k hk hk2 => ?_⟩
  · rcases hmem r hr with rfl | h
    · exact h1
    · have := (h4.own r h).1; omega
  · rcases hmem u hr with h | h
    · exact h3 h.symm
    · exact own_far h4.2 h5.1 h
  · rcases hmem k hr with h | h
    · subst h; exact own_far h5.2 h4.1 hk
    · exact h6 k hk h
  · rcases h8 k hk2 with h | h
    · exact h6 k hk h
    · have := (h5.own k hk).2; omega

def stepA (l : List Sn) (x : Ac) : List Sn := takeL (openL l x.id).1 x.id x.seq
def runA (xs : List Ac) (k : Nat) : List Sn := (xs.take k).foldl stepA []
theorem runA_succ (xs : List Ac) (k : Nat) (hk : k < xs.length) : runA xs (k + 1) = stepA (runA xs k) xs[k] := by
  unfold runA
  rw [List.take_succ_eq_append_getElem hk, List.foldl_append]; rfl
theorem good_step {l : List Sn} (h : Good l) (x : Ac) : Good (stepA l x) := good_take (good_open h _) _ _
theorem good_run (xs : List Ac) (k : Nat) : Good (runA xs k) := by
  unfold runA
  generalize xs.take k = m
  have : ∀ (m : List Ac) (l : List Sn), Good l → Good (m.foldl stepA l) := by
    intro m
    induction m with
    | nil => intro l h; exact h
    | cons x m ih => intro l h; exact ih _ (good_step h x)
  exact this m [] Good.nil

set_option maxHeartbeats 4000000 in
theorem sessApart_calls (w : World) (a : Value) (ha : Open.Rd w (.sl acSh 24) [a]) (b : Value) (hb : Open.Rd w (.sl acSh 24) [b]) :
    Calls Try.prog 7 #[a, b] w fun e w' => e = .returned (.bool true) ∧ Below w.heap.size w w' := by
  obtain ⟨xs, ad, acap, rfl, hal, hax, hac⟩ := ac_rd ha
  obtain ⟨ys, bd, bcap, rfl, hbl, hbx, hbc⟩ := ac_rd hb
  have AW := Lib.hid awake_calls
  have NW := Lib.hid new_calls
  have NT : Hid (Two w ((w.alloc (.cells #[.slice none 0 0] 101)).alloc (.cells #[.slice none 0 0] 101)) w.heap.size (w.heap.size + 1) [] []) := Lib.hid (by
    refine ⟨((Mod.refl w []).alloc _).alloc _, Nat.le_refl _, by omega, by omega, .slice none 0 0, .slice none 0 0, (new_tab w).mod ((Mod.refl _ []).alloc _) (by simp) (by simp), ?_, fun k hk => by cases hk⟩
    have h := new_tab (w.alloc (.cells #[.slice none 0 0] 101))
    rw [World.size_alloc] at h
    exact h)
  have O := Lib.hid (fun (t : Nat) (l : List Sn) (id : Int) (hl : Good l) (vt : Value) w h => open_calls t vt l id w h (by have := hl.len; omega) hl.up)
  have K := Lib.hid (fun (t : Nat) (l : List Sn) (id seq : Int) (hl : Good l) (vt : Value) w h => take_calls t vt l id seq w h (by have := hl.len; omega) hl.up)
  have X := Lib.hid (fun (t : Nat) (l : List Sn) (hl : Good l) (vt : Value) w h => text_calls t vt l w h (by have := hl.len; omega) hl.sb)
  have AL := Lib.hid (fun (t : Nat) (l : List Sn) (hl : Good l) (vt : Value) w h => all_calls t vt l w h (by have := hl.len; omega))
  have HAC := Lib.hid hac
  have HBC := Lib.hid hbc
  have hal' : (xs.length : Int) ≤ 140737488351232 := by omega
  have hbl' : (ys.length : Int) ≤ 140737488351232 := by omega
  have hsz : (w.alloc (.cells #[.slice none 0 0] 101)).heap.size = w.heap.size + 1 := World.size_alloc _ _
  clear ha hb hac hbc hax hbx
  go_enter Try.func7, Try.ntmps7
  go_wp2_with fail
  (with_reducible refine (NW.out _).mono ?_)
  rintro e w1 ⟨rfl, hw1⟩
  rw [← hw1] at NT hsz
  clear hw1
  go_wp2_with fail
  (with_reducible refine (NW.out _).mono ?_)
  rintro e w2 ⟨rfl, hw2⟩
  rw [← hw2] at NT
  rw [hsz]
  clear hw2 hsz
  go_wp2_with fail
  (with_reducible refine (AW.out _).mono ?_)
  rintro e w3 ⟨rfl, hm3⟩
  have HT3 := Lib.hid (NT.out.mod hm3)
  clear hm3 NT
  go_wp2_with fail
  go_loopw [7] (fun vi wr => ∃ i : Nat, i ≤ xs.length ∧ i ≤ 60 ∧ vi = .int .i64 (i : Int) ∧ Two w wr w.heap.size (w.heap.size + 1) (runA xs i) []) (fun vi _ => 61 - (intOf vi).toNat)
  case atStart => exact ⟨0, Nat.zero_le _, by omega, rfl, HT3.out⟩
  case round =>
    obtain ⟨i, hi, hi6, rfl, htw⟩ := hrel
    have HT := Lib.hid htw
    clear htw HT3
    by_cases hgo : i < xs.length ∧ i < 60
    · obtain ⟨hlt, h60⟩ := hgo
      have hlt' : (i : Int) < xs.length := by omega
      have h60' : (i : Int) < 60 := by omega
      obtain ⟨bb, off, rfl, hc⟩ := HAC.out.resolve_left (fun h => by rw [h] at hlt; simp at hlt)
      have HC := Lib.hid (hc i hlt)
      have HS := Lib.hid (runA_succ xs i hlt)
      have HG := Lib.hid (good_run xs i)
      clear hc
      generalize xs[i]'hlt = x at *
      generalize runA xs i = l at *
      obtain ⟨xk, x1, x2⟩ := x
      have HL : Hid (runA xs (i + 1) = takeL (openL l x1).1 x1 x2) := Lib.hid HS.out
      have hcw := HC.out.mod HT.out.1
      have c1 := hcw.c1
      clear hcw HS
      simp only at c1
      go_wp2_with fail
      (with_reducible refine (HT.out.call (fun vt h => O.out _ l x1 HG.out vt _ h)).mono ?_)
      rintro e w4 ⟨rfl, ht4⟩
      have HT4 := Lib.hid ht4
      have HG4 := Lib.hid (good_open HG.out x1)
      clear ht4 HT c1 HG
      generalize openL l x1 = l1 at *
      go_wp2_with fail
      refine Fx.wp_region_f [11] (fun m w' => Two w w' w.heap.size (w.heap.size + 1) (if m = 0 then l1.1 else takeL l1.1 x1 x2) []) (by kernel_rfl) (by decide) (HT4.out.mod (Mod.refl _ _).drew) ?_
      have hSS : ∀ (m' : Nat) w', Two w w' w.heap.size (w.heap.size + 1) (if m' = 0 then l1.1 else takeL l1.1 x1 x2) [] → _ := fun m' w' h => (⟨(HC.out.mod h.1).c1, (HC.out.mod h.1).c2⟩ : _ ∧ _)
      refine Fx.take (i := 0) (v := ?_) _ rfl (by kernel_rfl) (by kernel_rfl) (by rfl) hSS ?_ ?_
      rotate_left
      · (intro w' hSw; (try dsimp only at hSw); go_simp; first | done | with_reducible rfl)
      try simp only [List.getElem_toArray, List.getElem_cons_succ, List.getElem_cons_zero, Act.put, List.setIfInBounds_toArray, List.set_cons_zero, List.set_cons_succ]
      refine Fx.take (i := 1) (v := ?_) _ rfl (by kernel_rfl) (by kernel_rfl) (by rfl) hSS ?_ ?_
      rotate_left
      · (intro w' hSw; (try dsimp only at hSw); go_simp; first | done | with_reducible rfl)
      try simp only [List.getElem_toArray, List.getElem_cons_succ, List.getElem_cons_zero, Act.put, List.setIfInBounds_toArray, List.set_cons_zero, List.set_cons_succ]
      refine Fx.take (i := 2) (v := ?_) _ rfl (by kernel_rfl) (by kernel_rfl) (by rfl) hSS ?_ ?_
      rotate_left
      · (intro w' hSw; (try dsimp only at hSw); go_simp; first | done | with_reducible rfl)
      try simp only [List.getElem_toArray, List.getElem_cons_succ, List.getElem_cons_zero, Act.put, List.setIfInBounds_toArray, List.set_cons_zero, List.set_cons_succ]
      refine Fx.take (i := 3) (v := ?_) _ rfl (by kernel_rfl) (by kernel_rfl) (by rfl) hSS ?_ ?_
      rotate_left
      · (intro w' hSw; (try dsimp only at hSw); go_simp; first | done | with_reducible rfl)
      try simp only [List.getElem_toArray, List.getElem_cons_succ, List.getElem_cons_zero, Act.put, List.setIfInBounds_toArray, List.set_cons_zero, List.set_cons_succ]
      refine Fx.take (i := 4) (v := ?_) _ rfl (by kernel_rfl) (by kernel_rfl) (by rfl) hSS ?_ ?_
      rotate_left
      · (intro w' hSw; (try dsimp only at hSw); go_simp; first | done | with_reducible rfl)
      try simp only [List.getElem_toArray, List.getElem_cons_succ, List.getElem_cons_zero, Act.put, List.setIfInBounds_toArray, List.set_cons_zero, List.set_cons_succ]
      refine Fx.take (i := 5) (v := ?_) _ rfl (by kernel_rfl) (by kernel_rfl) (by rfl) hSS ?_ ?_
      rotate_left
      · (intro w' hSw; (try dsimp only at hSw); go_simp; first | done | with_reducible rfl)
      try simp only [List.getElem_toArray, List.getElem_cons_succ, List.getElem_cons_zero, Act.put, List.setIfInBounds_toArray, List.set_cons_zero, List.set_cons_succ]
      refine Fx.take (i := 6) (v := ?_) _ rfl (by kernel_rfl) (by kernel_rfl) (by rfl) hSS ?_ ?_
      rotate_left
      · (intro w' hSw; (try dsimp only at hSw); go_simp; first | done | with_reducible rfl)
      try simp only [List.getElem_toArray, List.getElem_cons_succ, List.getElem_cons_zero, Act.put, List.setIfInBounds_toArray, List.set_cons_zero, List.set_cons_succ]
      refine Fx.take (i := 7) (v := ?_) _ rfl (by kernel_rfl) (by kernel_rfl) (by rfl) hSS ?_ ?_
      rotate_left
      · (intro w' hSw; (try dsimp only at hSw); go_simp; first | done | with_reducible rfl)
      try simp only [List.getElem_toArray, List.getElem_cons_succ, List.getElem_cons_zero, Act.put, List.setIfInBounds_toArray, List.set_cons_zero, List.set_cons_succ]
      refine Fx.take (i := 8) (v := ?_) _ rfl (by kernel_rfl) (by kernel_rfl) (by rfl) hSS ?_ ?_
      rotate_left
      · (intro w' hSw; (try dsimp only at hSw); go_simp; first | done | with_reducible rfl)
      try simp only [List.getElem_toArray, List.getElem_cons_succ, List.getElem_cons_zero, Act.put, List.setIfInBounds_toArray, List.set_cons_zero, List.set_cons_succ]
      refine Fx.take (i := 9) (v := ?_) _ rfl (by kernel_rfl) (by kernel_rfl) (by rfl) hSS ?_ ?_
      rotate_left
      · (intro w' hSw; (try dsimp only at hSw); go_simp; first | done | with_reducible rfl)
      try simp only [List.getElem_toArray, List.getElem_cons_succ, List.getElem_cons_zero, Act.put, List.setIfInBounds_toArray, List.set_cons_zero, List.set_cons_succ]
      refine Fx.take (i := 10) (v := ?_) _ rfl (by kernel_rfl) (by kernel_rfl) (by rfl) hSS ?_ ?_
      rotate_left
      · (intro w' hSw; (try dsimp only at hSw); go_simp; first | done | with_reducible rfl)
      try simp only [List.getElem_toArray, List.getElem_cons_succ, List.getElem_cons_zero, Act.put, List.setIfInBounds_toArray, List.set_cons_zero, List.set_cons_succ]
      refine Fx.eff' (i := 11) 0 rfl (by kernel_rfl) (by kernel_rfl) (by rfl) (by kernel_rfl) (by kernel_rfl) ?_
      apply Exists.intro
      apply Exists.intro
      apply Exists.intro
      refine ⟨?_, ?_, ?_⟩
      · (intro w'; go_simp; first | done | (refine ⟨?_, ?_⟩ <;> with_reducible rfl) | with_reducible rfl)
      · (exact fun w' h => h.call (fun vt h => K.out _ l1.1 x1 x2 HG4.out vt _ h))
      try simp only [List.getElem_toArray, List.getElem_cons_succ, List.getElem_cons_zero, Act.put, List.setIfInBounds_toArray, List.set_cons_zero, List.set_cons_succ]
      refine Fx.done 1 (by kernel_rfl) (by kernel_rfl) (fun w5 hC => ?_)
      rw [if_neg (by decide), ← HL.out] at hC
      have HT5 := Lib.hid hC
      clear hC hSS
      go_wp2_with fail
      go_roundw
      case rel => exact ⟨i + 1, by omega, by omega, by go_num, HT5.out⟩
      case measure => simp [intOf]; omega
    · have hgd : (decide ((i : Int) < xs.length) && decide ((i : Int) < 60)) = false := by
        rw [Bool.and_eq_false_iff, decide_eq_false_iff_not, decide_eq_false_iff_not]; omega
      have HG := Lib.hid (good_run xs i)
      generalize runA xs i = la at *
      by_cases hlt : i < xs.length
      · have hlt' : (i : Int) < xs.length := by omega
        have h60' : (60 : Int) ≤ i := by omega
        go_wp2_with fail
        go_loopw [8] (fun vi wr => ∃ j : Nat, j ≤ ys.length ∧ j ≤ 60 ∧ vi = .int .i64 (j : Int) ∧ Two w wr w.heap.size (w.heap.size + 1) la (runA ys j)) (fun vi _ => 61 - (intOf vi).toNat)
        case atStart => exact ⟨0, Nat.zero_le _, by omega, rfl, HT.out⟩
        case round =>
          obtain ⟨j, hj, hj6, rfl, htw⟩ := hrel
          have HT2 := Lib.hid htw
          clear htw HT
          by_cases hgo2 : j < ys.length ∧ j < 60
          · obtain ⟨hjt, h62⟩ := hgo2
            have hjt' : (j : Int) < ys.length := by omega
            have h62' : (j : Int) < 60 := by omega
            obtain ⟨bb, off, rfl, hc⟩ := HBC.out.resolve_left (fun h => by rw [h] at hjt; simp at hjt)
            have HC := Lib.hid (hc j hjt)
            have HS := Lib.hid (runA_succ ys j hjt)
            have HG2 := Lib.hid (good_run ys j)
            clear hc
            generalize ys[j]'hjt = x at *
            generalize runA ys j = l at *
            obtain ⟨xk, x1, x2⟩ := x
            have HL : Hid (runA ys (j + 1) = takeL (openL l x1).1 x1 x2) := Lib.hid HS.out
            have hcw := HC.out.mod HT2.out.1
            have c1 := hcw.c1
            clear hcw HS
            simp only at c1
            go_wp2_with fail
            (with_reducible refine (HT2.out.symm.call (fun vt h => O.out _ l x1 HG2.out vt _ h)).mono ?_)
            rintro e w4 ⟨rfl, ht4⟩
            have HT4 := Lib.hid ht4
            have HG4 := Lib.hid (good_open HG2.out x1)
            clear ht4 HT2 c1 HG2
            generalize openL l x1 = l1 at *
            go_wp2_with fail
            refine Fx.wp_region_f [11] (fun m w' => Two w w' (w.heap.size + 1) w.heap.size (if m = 0 then l1.1 else takeL l1.1 x1 x2) la) (by kernel_rfl) (by decide) (HT4.out.mod (Mod.refl _ _).drew) ?_
            have hSS : ∀ (m' : Nat) w', Two w w' (w.heap.size + 1) w.heap.size (if m' = 0 then l1.1 else takeL l1.1 x1 x2) la → _ := fun m' w' h => (⟨(HC.out.mod h.1).c1, (HC.out.mod h.1).c2⟩ : _ ∧ _)
            refine Fx.take (i := 0) (v := ?_) _ rfl (by kernel_rfl) (by kernel_rfl) (by rfl) hSS ?_ ?_
            rotate_left
            · (intro w' hSw; (try dsimp only at hSw); go_simp; first | done | with_reducible rfl)
            try simp only [List.getElem_toArray, List.getElem_cons_succ, List.getElem_cons_zero, Act.put, List.setIfInBounds_toArray, List.set_cons_zero, List.set_cons_succ]
            refine Fx.take (i := 1) (v := ?_) _ rfl (by kernel_rfl) (by kernel_rfl) (by rfl) hSS ?_ ?_
            rotate_left
            · (intro w' hSw; (try dsimp only at hSw); go_simp; first | done | with_reducible rfl)
            try simp only [List.getElem_toArray, List.getElem_cons_succ, List.getElem_cons_zero, Act.put, List.setIfInBounds_toArray, List.set_cons_zero, List.set_cons_succ]
            refine Fx.take (i := 2) (v := ?_) _ rfl (by kernel_rfl) (by kernel_rfl) (by rfl) hSS ?_ ?_
            rotate_left
            · (intro w' hSw; (try dsimp only at hSw); go_simp; first | done | with_reducible rfl)
            try simp only [List.getElem_toArray, List.getElem_cons_succ, List.getElem_cons_zero, Act.put, List.setIfInBounds_toArray, List.set_cons_zero, List.set_cons_succ]
            refine Fx.take (i := 3) (v := ?_) _ rfl (by kernel_rfl) (by kernel_rfl) (by rfl) hSS ?_ ?_
            rotate_left
            · (intro w' hSw; (try dsimp only at hSw); go_simp; first | done | with_reducible rfl)
            try simp only [List.getElem_toArray, List.getElem_cons_succ, List.getElem_cons_zero, Act.put, List.setIfInBounds_toArray, List.set_cons_zero, List.set_cons_succ]
            refine Fx.take (i := 4) (v := ?_) _ rfl (by kernel_rfl) (by kernel_rfl) (by rfl) hSS ?_ ?_
            rotate_left
            · (intro w' hSw; (try dsimp only at hSw); go_simp; first | done | with_reducible rfl)
            try simp only [List.getElem_toArray, List.getElem_cons_succ, List.getElem_cons_zero, Act.put, List.setIfInBounds_toArray, List.set_cons_zero, List.set_cons_succ]
            refine Fx.take (i := 5) (v := ?_) _ rfl (by kernel_rfl) (by kernel_rfl) (by rfl) hSS ?_ ?_
            rotate_left
            · (intro w' hSw; (try dsimp only at hSw); go_simp; first | done | with_reducible rfl)
            try simp only [List.getElem_toArray, List.getElem_cons_succ, List.getElem_cons_zero, Act.put, List.setIfInBounds_toArray, List.set_cons_zero, List.set_cons_succ]
            refine Fx.take (i := 6) (v := ?_) _ rfl (by kernel_rfl) (by kernel_rfl) (by rfl) hSS ?_ ?_
            rotate_left
            · (intro w' hSw; (try dsimp only at hSw); go_simp; first | done | with_reducible rfl)
            try simp only [List.getElem_toArray, List.getElem_cons_succ, List.getElem_cons_zero, Act.put, List.setIfInBounds_toArray, List.set_cons_zero, List.set_cons_succ]
            refine Fx.take (i := 7) (v := ?_) _ rfl (by kernel_rfl) (by kernel_rfl) (by rfl) hSS ?_ ?_
            rotate_left
            · (intro w' hSw; (try dsimp only at hSw); go_simp; first | done | with_reducible rfl)
            try simp only [List.getElem_toArray, List.getElem_cons_succ, List.getElem_cons_zero, Act.put, List.setIfInBounds_toArray, List.set_cons_zero, List.set_cons_succ]
            refine Fx.take (i := 8) (v := ?_) _ rfl (by kernel_rfl) (by kernel_rfl) (by rfl) hSS ?_ ?_
            rotate_left
            · (intro w' hSw; (try dsimp only at hSw); go_simp; first | done | with_reducible rfl)
            try simp only [List.getElem_toArray, List.getElem_cons_succ, List.getElem_cons_zero, Act.put, List.setIfInBounds_toArray, List.set_cons_zero, List.set_cons_succ]
            refine Fx.take (i := 9) (v := ?_) _ rfl (by kernel_rfl) (by kernel_rfl) (by rfl) hSS ?_ ?_
            rotate_left
            · (intro w' hSw; (try dsimp only at hSw); go_simp; first | done | with_reducible rfl)
            try simp only [List.getElem_toArray, List.getElem_cons_succ, List.getElem_cons_zero, Act.put, List.setIfInBounds_toArray, List.set_cons_zero, List.set_cons_succ]
            refine Fx.take (i := 10) (v := ?_) _ rfl (by kernel_rfl) (by kernel_rfl) (by rfl) hSS ?_ ?_
            rotate_left
            · (intro w' hSw; (try dsimp only at hSw); go_simp; first | done | with_reducible rfl)
            try simp only [List.getElem_toArray, List.getElem_cons_succ, List.getElem_cons_zero, Act.put, List.setIfInBounds_toArray, List.set_cons_zero, List.set_cons_succ]
            refine Fx.eff' (i := 11) 0 rfl (by kernel_rfl) (by kernel_rfl) (by rfl) (by kernel_rfl) (by kernel_rfl) ?_
            apply Exists.intro
            apply Exists.intro
            apply Exists.intro
            refine ⟨?_, ?_, ?_⟩
            · (intro w'; go_simp; first | done | (refine ⟨?_, ?_⟩ <;> with_reducible rfl) | with_reducible rfl)
            · (exact fun w' h => h.call (fun vt h => K.out _ l1.1 x1 x2 HG4.out vt _ h))
            try simp only [List.getElem_toArray, List.getElem_cons_succ, List.getElem_cons_zero, Act.put, List.setIfInBounds_toArray, List.set_cons_zero, List.set_cons_succ]
            refine Fx.done 1 (by kernel_rfl) (by kernel_rfl) (fun w5 hC => ?_)
            rw [if_neg (by decide), ← HL.out] at hC
            have HT5 := Lib.hid hC.symm
            clear hC hSS
            go_wp2_with fail
            go_roundw
            case rel => exact ⟨j + 1, by omega, by omega, by go_num, HT5.out⟩
            case measure => simp [intOf]; omega
          · have HG2 := Lib.hid (good_run ys j)
            generalize runA ys j = lb at *
            have hfin : ∃ B : Bool, ((txt la).toList == (txt lb).toList) = B ∧ decide (la = lb) = B := by
              by_cases he : la = lb
              · exact ⟨true, by rw [he]; simp, decide_eq_true he⟩
              · refine ⟨false, ?_, decide_eq_false he⟩
                rw [beq_eq_false_iff_ne]
                intro h
                exact he (txt_inj HG.out.sb HG2.out.sb (by have := HG.out.len; omega) (by have := HG2.out.len; omega) (bytes_inj h))
            obtain ⟨B, hB1, hB2⟩ := hfin
            have HB2 := Lib.hid hB2
            clear hB2
            by_cases hjt : j < ys.length
            · have hjt' : (j : Int) < ys.length := by omega
              have h62' : (60 : Int) ≤ j := by omega
              go_wp2_with fail
              obtain ⟨vt, hvt⟩ := HT2.out.l
              (with_reducible refine (X.out _ la HG.out vt _ hvt).mono ?_)
              clear hvt
              rintro e v1 ⟨rfl, hn1⟩
              have HT3 := Lib.hid (HT2.out.mod hn1)
              clear hn1 HT2
              go_wp2_with fail
              obtain ⟨vt, hvt⟩ := HT3.out.r
              (with_reducible refine (X.out _ lb HG2.out vt _ hvt).mono ?_)
              clear hvt
              rintro e v2 ⟨rfl, hn2⟩
              have HT4 := Lib.hid (HT3.out.mod hn2)
              clear hn2 HT3
              go_wp2_with fail
              obtain ⟨vt, hvt⟩ := HT4.out.l
              (with_reducible refine (AL.out _ la HG.out vt _ hvt).mono ?_)
              clear hvt
              rintro e v3 ⟨ra, rfl, hn3, hra⟩
              have HT5 := Lib.hid (HT4.out.mod hn3)
              have RC := Lib.hid (refs_calls _ ra la v3 hra (by have := HG.out.len; omega))
              obtain ⟨ra1, ra2, rfl⟩ := Rw.own_slice hra
              clear hn3 HT4 hra
              go_wp2_with fail
              (with_reducible refine RC.out.mono ?_)
              rintro e v4 ⟨rb, rfl, hn4, hrb⟩
              have HT6 := Lib.hid (HT5.out.mod hn4)
              have HRB := Lib.hid hrb
              obtain ⟨rb1, rb2, rfl⟩ := Rw.own_slice hrb
              clear hn4 HT5 hrb RC
              go_wp2_with fail
              obtain ⟨vt, hvt⟩ := HT6.out.r
              (with_reducible refine (AL.out _ lb HG2.out vt _ hvt).mono ?_)
              clear hvt
              rintro e v5 ⟨rc, rfl, hn5, hrc⟩
              have HT7 := Lib.hid (HT6.out.mod hn5)
              have HRB5 := Lib.hid (HRB.out.mod hn5 (by simp))
              have RC := Lib.hid (refs_calls _ rc lb v5 hrc (by have := HG2.out.len; omega))
              obtain ⟨rc1, rc2, rfl⟩ := Rw.own_slice hrc
              clear hn5 HT6 hrc HRB
              go_wp2_with fail
              (with_reducible refine RC.out.mono ?_)
              rintro e v6 ⟨rd, rfl, hn6, hrd⟩
              have HT8 := Lib.hid (HT7.out.mod hn6)
              have SC := Lib.hid (same_calls _ _ _ rd la lb v6 (HRB5.out.mod hn6 (by simp)) hrd (by have := HG.out.len; omega) (by have := HG2.out.len; omega))
              rw [HB2.out] at SC
              obtain ⟨rd1, rd2, rfl⟩ := Rw.own_slice hrd
              clear hn6 HT7 hrd HRB5 RC
              go_wp2_with fail
              (with_reducible refine SC.out.mono ?_)
              rintro e v7 ⟨rfl, hn7⟩
              have HT9 := Lib.hid (HT8.out.mod hn7)
              clear hn7 HT8
              go_wp2_with fail
              go_ret
              exact ⟨ret_bool (by simp), HT9.out.1.below0⟩
            · have hjt' : (ys.length : Int) ≤ j := by omega
              go_wp2_with fail
              obtain ⟨vt, hvt⟩ := HT2.out.l
              (with_reducible refine (X.out _ la HG.out vt _ hvt).mono ?_)
              clear hvt
              rintro e v1 ⟨rfl, hn1⟩
              have HT3 := Lib.hid (HT2.out.mod hn1)
              clear hn1 HT2
              go_wp2_with fail
              obtain ⟨vt, hvt⟩ := HT3.out.r
              (with_reducible refine (X.out _ lb HG2.out vt _ hvt).mono ?_)
              clear hvt
              rintro e v2 ⟨rfl, hn2⟩
              have HT4 := Lib.hid (HT3.out.mod hn2)
              clear hn2 HT3
              go_wp2_with fail
              obtain ⟨vt, hvt⟩ := HT4.out.l
              (with_reducible refine (AL.out _ la HG.out vt _ hvt).mono ?_)
              clear hvt
              rintro e v3 ⟨ra, rfl, hn3, hra⟩
              have HT5 := Lib.hid (HT4.out.mod hn3)
              have RC := Lib.hid (refs_calls _ ra la v3 hra (by have := HG.out.len; omega))
              obtain ⟨ra1, ra2, rfl⟩ := Rw.own_slice hra
              clear hn3 HT4 hra
              go_wp2_with fail
              (with_reducible refine RC.out.mono ?_)
              rintro e v4 ⟨rb, rfl, hn4, hrb⟩
              have HT6 := Lib.hid (HT5.out.mod hn4)
              have HRB := Lib.hid hrb
              obtain ⟨rb1, rb2, rfl⟩ := Rw.own_slice hrb
              clear hn4 HT5 hrb RC
              go_wp2_with fail
              obtain ⟨vt, hvt⟩ := HT6.out.r
              (with_reducible refine (AL.out _ lb HG2.out vt _ hvt).mono ?_)
              clear hvt
              rintro e v5 ⟨rc, rfl, hn5, hrc⟩
              have HT7 := Lib.hid (HT6.out.mod hn5)
              have HRB5 := Lib.hid (HRB.out.mod hn5 (by simp))
              have RC := Lib.hid (refs_calls _ rc lb v5 hrc (by have := HG2.out.len; omega))
              obtain ⟨rc1, rc2, rfl⟩ := Rw.own_slice hrc
              clear hn5 HT6 hrc HRB
              go_wp2_with fail
              (with_reducible refine RC.out.mono ?_)
              rintro e v6 ⟨rd, rfl, hn6, hrd⟩
              have HT8 := Lib.hid (HT7.out.mod hn6)
              have SC := Lib.hid (same_calls _ _ _ rd la lb v6 (HRB5.out.mod hn6 (by simp)) hrd (by have := HG.out.len; omega) (by have := HG2.out.len; omega))
              rw [HB2.out] at SC
              obtain ⟨rd1, rd2, rfl⟩ := Rw.own_slice hrd
              clear hn6 HT7 hrd HRB5 RC
              go_wp2_with fail
              (with_reducible refine SC.out.mono ?_)
              rintro e v7 ⟨rfl, hn7⟩
              have HT9 := Lib.hid (HT8.out.mod hn7)
              clear hn7 HT8
              go_wp2_with fail
              go_ret
              exact ⟨ret_bool (by simp), HT9.out.1.below0⟩
      · have hlt' : (xs.length : Int) ≤ i := by omega
        go_wp2_with fail
        go_loopw [8] (fun vi wr => ∃ j : Nat, j ≤ ys.length ∧ j ≤ 60 ∧ vi = .int .i64 (j : Int) ∧ Two w wr w.heap.size (w.heap.size + 1) la (runA ys j)) (fun vi _ => 61 - (intOf vi).toNat)
        case atStart => exact ⟨0, Nat.zero_le _, by omega, rfl, HT.out⟩
        case round =>
          obtain ⟨j, hj, hj6, rfl, htw⟩ := hrel
          have HT2 := Lib.hid htw
          clear htw HT
          by_cases hgo2 : j < ys.length ∧ j < 60
          · obtain ⟨hjt, h62⟩ := hgo2
            have hjt' : (j : Int) < ys.length := by omega
            have h62' : (j : Int) < 60 := by omega
            obtain ⟨bb, off, rfl, hc⟩ := HBC.out.resolve_left (fun h => by rw [h] at hjt; simp at hjt)
            have HC := Lib.hid (hc j hjt)
            have HS := Lib.hid (runA_succ ys j hjt)
            have HG2 := Lib.hid (good_run ys j)
            clear hc
            generalize ys[j]'hjt = x at *
            generalize runA ys j = l at *
            obtain ⟨xk, x1, x2⟩ := x
            have HL : Hid (runA ys (j + 1) = takeL (openL l x1).1 x1 x2) := Lib.hid HS.out
            have hcw := HC.out.mod HT2.out.1
            have c1 := hcw.c1
            clear hcw HS
            simp only at c1
            go_wp2_with fail
            (with_reducible refine (HT2.out.symm.call (fun vt h => O.out _ l x1 HG2.out vt _ h)).mono ?_)
            rintro e w4 ⟨rfl, ht4⟩
            have HT4 := Lib.hid ht4
            have HG4 := Lib.hid (good_open HG2.out x1)
            clear ht4 HT2 c1 HG2
            generalize openL l x1 = l1 at *
            go_wp2_with fail
            refine Fx.wp_region_f [11] (fun m w' => Two w w' (w.heap.size + 1) w.heap.size (if m = 0 then l1.1 else takeL l1.1 x1 x2) la) (by kernel_rfl) (by decide) (HT4.out.mod (Mod.refl _ _).drew) ?_
            have hSS : ∀ (m' : Nat) w', Two w w' (w.heap.size + 1) w.heap.size (if m' = 0 then l1.1 else takeL l1.1 x1 x2) la → _ := fun m' w' h => (⟨(HC.out.mod h.1).c1, (HC.out.mod h.1).c2⟩ : _ ∧ _)
            refine Fx.take (i := 0) (v := ?_) _ rfl (by kernel_rfl) (by kernel_rfl) (by rfl) hSS ?_ ?_
            rotate_left
            · (intro w' hSw; (try dsimp only at hSw); go_simp; first | done | with_reducible rfl)
            try simp only [List.getElem_toArray, List.getElem_cons_succ, List.getElem_cons_zero, Act.put, List.setIfInBounds_toArray, List.set_cons_zero, List.set_cons_succ]
            refine Fx.take (i := 1) (v := ?_) _ rfl (by kernel_rfl) (by kernel_rfl) (by rfl) hSS ?_ ?_
            rotate_left
            · (intro w' hSw; (try dsimp only at hSw); go_simp; first | done | with_reducible rfl)
            try simp only [List.getElem_toArray, List.getElem_cons_succ, List.getElem_cons_zero, Act.put, List.setIfInBounds_toArray, List.set_cons_zero, List.set_cons_succ]
            refine Fx.take (i := 2) (v := ?_) _ rfl (by kernel_rfl) (by kernel_rfl) (by rfl) hSS ?_ ?_
            rotate_left
            · (intro w' hSw; (try dsimp only at hSw); go_simp; first | done | with_reducible rfl)
            try simp only [List.getElem_toArray, List.getElem_cons_succ, List.getElem_cons_zero, Act.put, List.setIfInBounds_toArray, List.set_cons_zero, List.set_cons_succ]
            refine Fx.take (i := 3) (v := ?_) _ rfl (by kernel_rfl) (by kernel_rfl) (by rfl) hSS ?_ ?_
            rotate_left
            · (intro w' hSw; (try dsimp only at hSw); go_simp; first | done | with_reducible rfl)
            try simp only [List.getElem_toArray, List.getElem_cons_succ, List.getElem_cons_zero, Act.put, List.setIfInBounds_toArray, List.set_cons_zero, List.set_cons_succ]
            refine Fx.take (i := 4) (v := ?_) _ rfl (by kernel_rfl) (by kernel_rfl) (by rfl) hSS ?_ ?_
            rotate_left
            · (intro w' hSw; (try dsimp only at hSw); go_simp; first | done | with_reducible rfl)
            try simp only [List.getElem_toArray, List.getElem_cons_succ, List.getElem_cons_zero, Act.put, List.setIfInBounds_toArray, List.set_cons_zero, List.set_cons_succ]
            refine Fx.take (i := 5) (v := ?_) _ rfl (by kernel_rfl) (by kernel_rfl) (by rfl) hSS ?_ ?_
            rotate_left
            · (intro w' hSw; (try dsimp only at hSw); go_simp; first | done | with_reducible rfl)
            try simp only [List.getElem_toArray, List.getElem_cons_succ, List.getElem_cons_zero, Act.put, List.setIfInBounds_toArray, List.set_cons_zero, List.set_cons_succ]
            refine Fx.take (i := 6) (v := ?_) _ rfl (by kernel_rfl) (by kernel_rfl) (by rfl) hSS ?_ ?_
            rotate_left
            · (intro w' hSw; (try dsimp only at hSw); go_simp; first | done | with_reducible rfl)
            try simp only [List.getElem_toArray, List.getElem_cons_succ, List.getElem_cons_zero, Act.put, List.setIfInBounds_toArray, List.set_cons_zero, List.set_cons_succ]
            refine Fx.take (i := 7) (v := ?_) _ rfl (by kernel_rfl) (by kernel_rfl) (by rfl) hSS ?_ ?_
            rotate_left
            · (intro w' hSw; (try dsimp only at hSw); go_simp; first | done | with_reducible rfl)
            try simp only [List.getElem_toArray, List.getElem_cons_succ, List.getElem_cons_zero, Act.put, List.setIfInBounds_toArray, List.set_cons_zero, List.set_cons_succ]
            refine Fx.take (i := 8) (v := ?_) _ rfl (by kernel_rfl) (by kernel_rfl) (by rfl) hSS ?_ ?_
            rotate_left
            · (intro w' hSw; (try dsimp only at hSw); go_simp; first | done | with_reducible rfl)
            try simp only [List.getElem_toArray, List.getElem_cons_succ, List.getElem_cons_zero, Act.put, List.setIfInBounds_toArray, List.set_cons_zero, List.set_cons_succ]
            refine Fx.take (i := 9) (v := ?_) _ rfl (by kernel_rfl) (by kernel_rfl) (by rfl) hSS ?_ ?_
            rotate_left
            · (intro w' hSw; (try dsimp only at hSw); go_simp; first | done | with_reducible rfl)
            try simp only [List.getElem_toArray, List.getElem_cons_succ, List.getElem_cons_zero, Act.put, List.setIfInBounds_toArray, List.set_cons_zero, List.set_cons_succ]
            refine Fx.take (i := 10) (v := ?_) _ rfl (by kernel_rfl) (by kernel_rfl) (by rfl) hSS ?_ ?_
            rotate_left
            · (intro w' hSw; (try dsimp only at hSw); go_simp; first | done | with_reducible rfl)
            try simp only [List.getElem_toArray, List.getElem_cons_succ, List.getElem_cons_zero, Act.put, List.setIfInBounds_toArray, List.set_cons_zero, List.set_cons_succ]
            refine Fx.eff' (i := 11) 0 rfl (by kernel_rfl) (by kernel_rfl) (by rfl) (by kernel_rfl) (by kernel_rfl) ?_
            apply Exists.intro
            apply Exists.intro
            apply Exists.intro
            refine ⟨?_, ?_, ?_⟩
            · (intro w'; go_simp; first | done | (refine ⟨?_, ?_⟩ <;> with_reducible rfl) | with_reducible rfl)
            · (exact fun w' h => h.call (fun vt h => K.out _ l1.1 x1 x2 HG4.out vt _ h))
            try simp only [List.getElem_toArray, List.getElem_cons_succ, List.getElem_cons_zero, Act.put, List.setIfInBounds_toArray, List.set_cons_zero, List.set_cons_succ]
            refine Fx.done 1 (by kernel_rfl) (by kernel_rfl) (fun w5 hC => ?_)
            rw [if_neg (by decide), ← HL.out] at hC
            have HT5 := Lib.hid hC.symm
            clear hC hSS
            go_wp2_with fail
            go_roundw
            case rel => exact ⟨j + 1, by omega, by omega, by go_num, HT5.out⟩
            case measure => simp [intOf]; omega
          · have HG2 := Lib.hid (good_run ys j)
            generalize runA ys j = lb at *
            have hfin : ∃ B : Bool, ((txt la).toList == (txt lb).toList) = B ∧ decide (la = lb) = B := by
              by_cases he : la = lb
              · exact ⟨true, by rw [he]; simp, decide_eq_true he⟩
              · refine ⟨false, ?_, decide_eq_false he⟩
                rw [beq_eq_false_iff_ne]
                intro h
                exact he (txt_inj HG.out.sb HG2.out.sb (by have := HG.out.len; omega) (by have := HG2.out.len; omega) (bytes_inj h))
            obtain ⟨B, hB1, hB2⟩ := hfin
            have HB2 := Lib.hid hB2
            clear hB2
            by_cases hjt : j < ys.length
            · have hjt' : (j : Int) < ys.length := by omega
              have h62' : (60 : Int) ≤ j := by omega
              go_wp2_with fail
              obtain ⟨vt, hvt⟩ := HT2.out.l
              (with_reducible refine (X.out _ la HG.out vt _ hvt).mono ?_)
              clear hvt
              rintro e v1 ⟨rfl, hn1⟩
              have HT3 := Lib.hid (HT2.out.mod hn1)
              clear hn1 HT2
              go_wp2_with fail
              obtain ⟨vt, hvt⟩ := HT3.out.r
              (with_reducible refine (X.out _ lb HG2.out vt _ hvt).mono ?_)
              clear hvt
              rintro e v2 ⟨rfl, hn2⟩
              have HT4 := Lib.hid (HT3.out.mod hn2)
              clear hn2 HT3
              go_wp2_with fail
              obtain ⟨vt, hvt⟩ := HT4.out.l
              (with_reducible refine (AL.out _ la HG.out vt _ hvt).mono ?_)
              clear hvt
              rintro e v3 ⟨ra, rfl, hn3, hra⟩
              have HT5 := Lib.hid (HT4.out.mod hn3)
              have RC := Lib.hid (refs_calls _ ra la v3 hra (by have := HG.out.len; omega))
              obtain ⟨ra1, ra2, rfl⟩ := Rw.own_slice hra
              clear hn3 HT4 hra
              go_wp2_with fail
              (with_reducible refine RC.out.mono ?_)
              rintro e v4 ⟨rb, rfl, hn4, hrb⟩
              have HT6 := Lib.hid (HT5.out.mod hn4)
              have HRB := Lib.hid hrb
              obtain ⟨rb1, rb2, rfl⟩ := Rw.own_slice hrb
              clear hn4 HT5 hrb RC
              go_wp2_with fail
              obtain ⟨vt, hvt⟩ := HT6.out.r
              (with_reducible refine (AL.out _ lb HG2.out vt _ hvt).mono ?_)
              clear hvt
              rintro e v5 ⟨rc, rfl, hn5, hrc⟩
              have HT7 := Lib.hid (HT6.out.mod hn5)
              have HRB5 := Lib.hid (HRB.out.mod hn5 (by simp))
              have RC := Lib.hid (refs_calls _ rc lb v5 hrc (by have := HG2.out.len; omega))
              obtain ⟨rc1, rc2, rfl⟩ := Rw.own_slice hrc
              clear hn5 HT6 hrc HRB
              go_wp2_with fail
              (with_reducible refine RC.out.mono ?_)
              rintro e v6 ⟨rd, rfl, hn6, hrd⟩
              have HT8 := Lib.hid (HT7.out.mod hn6)
              have SC := Lib.hid (same_calls _ _ _ rd la lb v6 (HRB5.out.mod hn6 (by simp)) hrd (by have := HG.out.len; omega) (by have := HG2.out.len; omega))
              rw [HB2.out] at SC
              obtain ⟨rd1, rd2, rfl⟩ := Rw.own_slice hrd
              clear hn6 HT7 hrd HRB5 RC
              go_wp2_with fail
              (with_reducible refine SC.out.mono ?_)
              rintro e v7 ⟨rfl, hn7⟩
              have HT9 := Lib.hid (HT8.out.mod hn7)
              clear hn7 HT8
              go_wp2_with fail
              go_ret
              exact ⟨ret_bool (by simp), HT9.out.1.below0⟩
            · have hjt' : (ys.length : Int) ≤ j := by omega
              go_wp2_with fail
              obtain ⟨vt, hvt⟩ := HT2.out.l
              (with_reducible refine (X.out _ la HG.out vt _ hvt).mono ?_)
              clear hvt
              rintro e v1 ⟨rfl, hn1⟩
              have HT3 := Lib.hid (HT2.out.mod hn1)
              clear hn1 HT2
              go_wp2_with fail
              obtain ⟨vt, hvt⟩ := HT3.out.r
              (with_reducible refine (X.out _ lb HG2.out vt _ hvt).mono ?_)
              clear hvt
              rintro e v2 ⟨rfl, hn2⟩
              have HT4 := Lib.hid (HT3.out.mod hn2)
              clear hn2 HT3
              go_wp2_with fail
              obtain ⟨vt, hvt⟩ := HT4.out.l
              (with_reducible refine (AL.out _ la HG.out vt _ hvt).mono ?_)
              clear hvt
              rintro e v3 ⟨ra, rfl, hn3, hra⟩
              have HT5 := Lib.hid (HT4.out.mod hn3)
              have RC := Lib.hid (refs_calls _ ra la v3 hra (by have := HG.out.len; omega))
              obtain ⟨ra1, ra2, rfl⟩ := Rw.own_slice hra
              clear hn3 HT4 hra
              go_wp2_with fail
              (with_reducible refine RC.out.mono ?_)
              rintro e v4 ⟨rb, rfl, hn4, hrb⟩
              have HT6 := Lib.hid (HT5.out.mod hn4)
              have HRB := Lib.hid hrb
              obtain ⟨rb1, rb2, rfl⟩ := Rw.own_slice hrb
              clear hn4 HT5 hrb RC
              go_wp2_with fail
              obtain ⟨vt, hvt⟩ := HT6.out.r
              (with_reducible refine (AL.out _ lb HG2.out vt _ hvt).mono ?_)
              clear hvt
              rintro e v5 ⟨rc, rfl, hn5, hrc⟩
              have HT7 := Lib.hid (HT6.out.mod hn5)
              have HRB5 := Lib.hid (HRB.out.mod hn5 (by simp))
              have RC := Lib.hid (refs_calls _ rc lb v5 hrc (by have := HG2.out.len; omega))
              obtain ⟨rc1, rc2, rfl⟩ := Rw.own_slice hrc
              clear hn5 HT6 hrc HRB
              go_wp2_with fail
              (with_reducible refine RC.out.mono ?_)
              rintro e v6 ⟨rd, rfl, hn6, hrd⟩
              have HT8 := Lib.hid (HT7.out.mod hn6)
              have SC := Lib.hid (same_calls _ _ _ rd la lb v6 (HRB5.out.mod hn6 (by simp)) hrd (by have := HG.out.len; omega) (by have := HG2.out.len; omega))
              rw [HB2.out] at SC
              obtain ⟨rd1, rd2, rfl⟩ := Rw.own_slice hrd
              clear hn6 HT7 hrd HRB5 RC
              go_wp2_with fail
              (with_reducible refine SC.out.mono ?_)
              rintro e v7 ⟨rfl, hn7⟩
              have HT9 := Lib.hid (HT8.out.mod hn7)
              clear hn7 HT8
              go_wp2_with fail
              go_ret
              exact ⟨ret_bool (by simp), HT9.out.1.below0⟩
end Go.Proofs.Ytcbafomhifdgpaa.Ss
end
