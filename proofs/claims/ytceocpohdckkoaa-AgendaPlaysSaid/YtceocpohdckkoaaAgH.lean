/- The reference's Drop. -/
import Derived.Test.YtceocpohdckkoaaAgG
namespace Go.Proofs.Ytceocpohdckkoaa.Ag
open Go.RowKit Mem
set_option linter.unusedSimpArgs false
set_option linter.unusedVariables false
set_option maxRecDepth 100000

theorem own_base {w : World} {base b' : Nat} {e : TypeId} {size : Nat} {v : Value} {n : Nat} {xs : List Value} (h : w.ownsRow base e size v n xs) (hb : b' ≤ base) : w.ownsRow b' e size v n xs := by
  obtain ⟨h0, h1 | ⟨g, cap, cur, hv, hg, hr⟩⟩ := h
  · exact ⟨h0, .inl h1⟩
  · exact ⟨h0, .inr ⟨g, cap, cur, hv, Nat.le_trans hb hg, hr⟩⟩
theorem RfAt.cells {w : World} {v : Value} {l : List It} (h : RfAt w v l) (i : Nat) (hi : i < l.length) : ∃ g off cap, v = .slice (some ⟨g, off, none⟩) l.length cap ∧ g < w.heap.size ∧
    w.cell? ⟨g, off + i * 3, none⟩ = some (.int .i64 l[i].1) ∧ w.cell? ⟨g, off + i * 3 + 1, none⟩ = some (.int .i64 l[i].2.1) ∧ w.cell? ⟨g, off + i * 3 + 2, none⟩ = some (.int .i64 l[i].2.2) := by
  rcases h with ⟨_, h0⟩ | ⟨g, off, cap, hv, _, _, hg, h4⟩
  · rw [h0] at hi; simp at hi
  · obtain ⟨a, b, c⟩ := h4 i hi
    exact ⟨g, off, cap, hv, hg.elim fun _ hb => hb.lt, a, b, c⟩
/-- The worlds of a last region that stores the result: before the store, and behind it. -/
def RtC (wr : World) (tb : Nat) (u v : Value) (m : Nat) (w' : World) : Prop := Mod wr w' [tb] ∧ Blk w' tb (if m = 0 then #[.slice none 0 0, .int .i64 0] else #[u, v]) 75
theorem RtC.keep {wr : World} {tb : Nat} {u v : Value} {m : Nat} {w' : World} (h : RtC wr tb u v m w') {p : Addr} {x : Value} (hc : wr.cell? p = some x) (hp : p.block ≠ tb) : w'.cell? p = some x :=
  (h.1.cell (Rw.cell_lt hc) (by simpa using hp)).trans hc
theorem RtC.start {wr : World} {tb : Nat} {u v : Value} (h : Blk wr tb #[.slice none 0 0, .int .i64 0] 75) : RtC wr tb u v 0 wr.drew := ⟨(Mod.refl _ _).drew, h.drew⟩
theorem RtC.store {wr : World} {tb : Nat} {u v : Value} {w' : World} (h : RtC wr tb u v 0 w') : (w'.cell? ⟨tb, 0, none⟩ = some (.slice none 0 0) ∧ w'.cell? ⟨tb, 1, none⟩ = some (.int .i64 0) ∧ w'.frozen? ⟨tb, 0, none⟩ = false ∧ w'.frozen? ⟨tb, 1, none⟩ = false ∧ tb < w'.heap.size) :=
  ⟨h.2.cell 0, h.2.cell 1, h.2.free 0, h.2.free 1, h.2.lt⟩
theorem RtC.put {wr : World} {tb : Nat} {u v : Value} {w' : World} (h : RtC wr tb u v 0 w') : RtC wr tb u v 1 ((w'.setCell ⟨tb, 0, none⟩ u).setCell ⟨tb, 1, none⟩ v) := by
  refine ⟨(h.1.setCell (by simp) _).setCell (by simp) _, ?_⟩
  have := (h.2.set 0 u).set 1 v
  simpa using this

set_option maxHeartbeats 4000000 in
theorem rdrop_calls (v : Value) (last : Int) (l : List It) (id : Int) (w : World) (h : RfAt w v l) (hn : l.length ≤ 5000) :
    Calls Try.prog 63 #[agV v last, .int .i64 id] w fun e w' => ∃ v', e = .returned (.tuple #[agV v' last, .bool (decide ((woI l id).length < l.length))]) ∧ Mod w w' [] ∧ RfAt w' v' (woI l id) := by
  obtain ⟨i0, hi0, hz0, hz1, hz2⟩ := info_parts info_rit
  have HR := Lib.hid h
  obtain ⟨a, c, rfl⟩ := h.slice
  have HM0 := Lib.hid (((Mod.refl w []).alloc (.cells #[.slice a l.length c, .int .i64 last] 75)).alloc (.cells #[.slice none 0 0, .int .i64 0] 75))
  have HB0 := Lib.hid ((Blk.new w #[.slice a l.length c, .int .i64 last] 75).alloc (.cells #[.slice none 0 0, .int .i64 0] 75))
  have hc0 := Blk.new (w.alloc (.cells #[.slice a l.length c, .int .i64 last] 75)) #[.slice none 0 0, .int .i64 0] 75
  rw [World.size_alloc] at hc0
  have HC0 := Lib.hid hc0
  have HWZ : Hid (((w.alloc (.cells #[.slice a l.length c, .int .i64 last] 75)).alloc (.cells #[.slice none 0 0, .int .i64 0] 75)).heap.size = w.heap.size + 2) := Lib.hid (by rw [World.size_alloc, World.size_alloc])
  have hn' : (l.length : Int) ≤ 5000 := by omega
  clear h hc0
  show Calls _ _ #[.agg #[.slice a l.length c, .int .i64 last], .int .i64 id] _ _
  go_enter Try.func63, Try.ntmps63
  go_wp2_with fail
  generalize (w.alloc _).alloc _ = W at HM0 HB0 HC0 HWZ ⊢
  go_loopw [6, 7] (fun vl vi wr => ∃ (i k : Nat) (ga : Option Addr) (gc : Nat), i ≤ l.length ∧ vl = .slice ga k gc ∧ vi = .int .i64 (i : Int) ∧ Mod W wr [] ∧ Hid (k = (woI (l.take i) id).length) ∧ k ≤ i ∧ wr.ownsRow (w.heap.size + 2) 127 3 (.slice ga k gc) k (rowsI (woI (l.take i) id))) (fun _ vi _ => l.length + 1 - (intOf vi).toNat)
  case atStart => exact ⟨0, 0, none, 0, Nat.zero_le _, rfl, rfl, Mod.refl _ _, Lib.hid rfl, Nat.le_refl _, World.ownsRow_nil _ _ _ _⟩
  case round =>
    obtain ⟨i, k, ga, gc, hi, rfl, rfl, hm, HK, hkl, hown⟩ := hrel
    have HM := Lib.hid (HM0.out.trans0 hm)
    have HMW := Lib.hid hm
    have HO := Lib.hid hown
    have HB := Lib.hid (HB0.out.mod hm (by simp))
    have HC := Lib.hid (HC0.out.mod hm (by simp))
    have hlc := HC.out.lt
    have c0 := HB.out.cell 0
    have c1 := HB.out.cell 1
    clear hm hown
    by_cases hlt : i < l.length
    · have hlt' : (i : Int) < l.length := by omega
      obtain ⟨g, off, cap, hv, hg, d0, d1, d2⟩ := HR.out.cells i hlt
      have e0 := keepC HM.out d0
      have e1 := keepC HM.out d1
      have e2 := keepC HM.out d2
      injection hv with q1 q2 q3
      subst q1 q3
      have HS : Hid (woI (l.take (i + 1)) id = woI (l.take i) id ++ woI [l[i]] id) := Lib.hid (by
        unfold woI; rw [List.take_succ_eq_append_getElem hlt, List.filter_append])
      clear d0 d1 d2 q2 HR
      generalize l[i] = x at *
      obtain ⟨x1, x2, x3⟩ := x
      simp only at e0 e1 e2
      by_cases hx : x2 = id
      · have HSS : Hid (woI (l.take (i + 1)) id = woI (l.take i) id) := Lib.hid (by
          rw [HS.out]; unfold woI; rw [List.filter_cons, if_neg (by simpa using hx)]; simp)
        have hxb : (x2 != id) = false := by simpa using hx
        clear HS hx
        go_wp2_with fail
        go_roundw
        case rel => exact ⟨i + 1, k, ga, gc, by omega, rfl, by go_num, HMW.out, Lib.hid (by rw [HSS.out]; exact HK.out), by omega, by rw [HSS.out]; exact HO.out⟩
        case measure => simp [intOf]; omega
      · have HSS : Hid (woI (l.take (i + 1)) id = woI (l.take i) id ++ [(x1, x2, x3)]) := Lib.hid (by
          rw [HS.out]; conv => lhs; rhs; unfold woI
          rw [List.filter_cons, if_pos (by simpa using hx)]; rfl)
        have HRS : Hid (rowsI (woI (l.take (i + 1)) id) = rowsI (woI (l.take i) id) ++ [.int .i64 x1, .int .i64 x2, .int .i64 x3]) := Lib.hid (by rw [HSS.out, rowsI_append]; rfl)
        have hxb : (x2 != id) = true := by simpa using hx
        have H2C := Lib.hid (it_three (Blk.new wr #[.int .i64 x1, .int .i64 x2, .int .i64 x3] 127))
        clear HS hx
        generalize hys : rowsI (woI (l.take i) id) = ys at *
        go_wp2_with (at_builtin; refine wpList_append_own _ rfl _ _ 73 rfl (w.heap.size + 2) 127 i0 _ 3 24 Try.underlying73 hi0 hz0 hz1 hz2 rfl (by decide) _ _ _ rfl (HO.out.alloc _) ⟨wr.heap.size, 0, none⟩ 1 1 [.int .i64 x1, .int .i64 x2, .int .i64 x3] rfl rfl H2C.out (by simp [Value.oneCell']) (by unfold maxLen; omega) (by omega) (by have := HM.out.size; simp; omega) ?_; intro v' w1 hown' hgrow hnil; clear hnil; have HO1 := Lib.hid hown'; have HG1 := Lib.hid hgrow; clear hown' hgrow; obtain ⟨ga', gc', rfl⟩ := Rw.own_slice HO1.out)
        go_roundw
        case rel =>
          refine ⟨i + 1, k + 1, ga', gc', by omega, rfl, by go_num, (HMW.out.alloc _).grown HG1.out (fun j hj => .inr ?_), Lib.hid (by rw [HSS.out, List.length_append, ← HK.out]; rfl), by omega, ?_⟩
          · have := own_ge HO.out j hj
            have := HWZ.out
            omega
          · rw [HRS.out]; exact HO1.out
        case measure => simp [intOf]; omega
    · have hge : (l.length : Int) ≤ i := by omega
      have hii : i = l.length := by omega
      have HE : Hid (decide (k < l.length) = decide ((woI l id).length < l.length)) := Lib.hid (by
        have h2 := HK.out
        rw [hii, List.take_length] at h2
        rw [h2])
      have HFIN : Hid (∀ w4, RtC wr (w.heap.size + 1) (.slice ga k gc) (.int .i64 last) 1 w4 → Mod w w4 [] ∧ RfAt w4 (.slice ga k gc) (woI l id)) := Lib.hid (fun w4 hC => by
        have h1 := HO.out
        have h2 := HK.out
        rw [hii, List.take_length] at h1 h2
        refine ⟨HM.out.trans hC.1 (fun r hr => .inr (by simp at hr; omega)), ?_⟩
        have h3 : RoAt w4 (w.heap.size + 2) (.slice ga k gc) (woI l id) := by
          unfold RoAt
          rw [← h2]
          exact own_mod h1 hC.1 (fun j hj => by have := own_ge h1 j hj; simp; omega)
        exact h3.rf)
      have hAB : w.heap.size ≠ w.heap.size + 1 := by omega
      clear HK hii HR
      go_wp2_with fail
      refine Fx.wp_region_f [10] (RtC wr (w.heap.size + 1) (.slice ga k gc) (.int .i64 last)) (by kernel_rfl) (by decide) (RtC.start HC.out) ?_
      have hSS : ∀ (m' : Nat) w', RtC wr (w.heap.size + 1) (.slice ga k gc) (.int .i64 last) m' w' → _ := fun m' w' h => (⟨h.keep c0 hAB, h.keep c1 hAB⟩ : _ ∧ _)
      have hP0 : ∀ w', RtC wr (w.heap.size + 1) (.slice ga k gc) (.int .i64 last) 0 w' → _ := fun w' h => h.store
      refine Fx.take (i := 0) (v := ?_) _ rfl (by kernel_rfl) (by kernel_rfl) (by rfl) hSS ?_ ?_
      rotate_left
      · (intro w' hSw; (try dsimp only at hSw); go_simp; first | done | with_reducible rfl)
      try simp only [List.getElem_toArray, List.getElem_cons_succ, List.getElem_cons_zero, Act.put, List.setIfInBounds_toArray, List.set_cons_zero, List.set_cons_succ]
      refine Fx.take (i := 1) (v := ?_) _ rfl (by kernel_rfl) (by kernel_rfl) (by rfl) hSS ?_ ?_
      rotate_left
      · (intro w' hSw; (try dsimp only at hSw); go_simp; first | done | with_reducible rfl)
      try simp only [List.getElem_toArray, List.getElem_cons_succ, List.getElem_cons_zero, Act.put, List.setIfInBounds_toArray, List.set_cons_zero, List.set_cons_succ]
      refine Fx.take (i := 2) (v := ?_) _ rfl (by kernel_rfl) (by kernel_rfl) (by rfl) hSS ?_ ?_
      rotate_left
      · (intro w' hSw; (try dsimp only at hSw); go_simp; first | done | with_reducible rfl)
      try simp only [List.getElem_toArray, List.getElem_cons_succ, List.getElem_cons_zero, Act.put, List.setIfInBounds_toArray, List.set_cons_zero, List.set_cons_succ]
      refine Fx.take (i := 3) (v := ?_) _ rfl (by kernel_rfl) (by kernel_rfl) (by rfl) hSS ?_ ?_
      rotate_left
      · (intro w' hSw; (try dsimp only at hSw); go_simp; first | done | with_reducible rfl)
      try simp only [List.getElem_toArray, List.getElem_cons_succ, List.getElem_cons_zero, Act.put, List.setIfInBounds_toArray, List.set_cons_zero, List.set_cons_succ]
      refine Fx.take (i := 4) (v := ?_) _ rfl (by kernel_rfl) (by kernel_rfl) (by rfl) hSS ?_ ?_
      rotate_left
      · (intro w' hSw; (try dsimp only at hSw); go_simp; first | done | with_reducible rfl)
      try simp only [List.getElem_toArray, List.getElem_cons_succ, List.getElem_cons_zero, Act.put, List.setIfInBounds_toArray, List.set_cons_zero, List.set_cons_succ]
      refine Fx.take (i := 5) (v := ?_) _ rfl (by kernel_rfl) (by kernel_rfl) (by rfl) hSS ?_ ?_
      rotate_left
      · (intro w' hSw; (try dsimp only at hSw); go_simp; first | done | with_reducible rfl)
      try simp only [List.getElem_toArray, List.getElem_cons_succ, List.getElem_cons_zero, Act.put, List.setIfInBounds_toArray, List.set_cons_zero, List.set_cons_succ]
      refine Fx.take (i := 6) (v := ?_) _ rfl (by kernel_rfl) (by kernel_rfl) (by rfl) hSS ?_ ?_
      rotate_left
      · (intro w' hSw; (try dsimp only at hSw); go_simp; first | done | with_reducible rfl)
      try simp only [List.getElem_toArray, List.getElem_cons_succ, List.getElem_cons_zero, Act.put, List.setIfInBounds_toArray, List.set_cons_zero, List.set_cons_succ]
      refine Fx.take (i := 7) (v := ?_) _ rfl (by kernel_rfl) (by kernel_rfl) (by rfl) hSS ?_ ?_
      rotate_left
      · (intro w' hSw; (try dsimp only at hSw); go_simp; first | done | with_reducible rfl)
      try simp only [List.getElem_toArray, List.getElem_cons_succ, List.getElem_cons_zero, Act.put, List.setIfInBounds_toArray, List.set_cons_zero, List.set_cons_succ]
      refine Fx.take (i := 8) (v := ?_) _ rfl (by kernel_rfl) (by kernel_rfl) (by rfl) hSS ?_ ?_
      rotate_left
      · (intro w' hSw; (try dsimp only at hSw); go_simp; first | done | with_reducible rfl)
      try simp only [List.getElem_toArray, List.getElem_cons_succ, List.getElem_cons_zero, Act.put, List.setIfInBounds_toArray, List.set_cons_zero, List.set_cons_succ]
      refine Fx.take (i := 9) (v := ?_) _ rfl (by kernel_rfl) (by kernel_rfl) (by rfl) hSS ?_ ?_
      rotate_left
      · (intro w' hSw; (try dsimp only at hSw); go_simp; first | done | with_reducible rfl)
      try simp only [List.getElem_toArray, List.getElem_cons_succ, List.getElem_cons_zero, Act.put, List.setIfInBounds_toArray, List.set_cons_zero, List.set_cons_succ]
      refine Fx.put (i := 10) 0 ?_ rfl (by kernel_rfl) (by kernel_rfl) (by rfl) (by kernel_rfl) (by kernel_rfl) ?_ ?_ ?_
      rotate_left
      · (intro w' hC; obtain hSw := hP0 _ hC; (try dsimp only at hSw); go_simp; first | done | with_reducible rfl)
      · (exact fun w' h => h.put)
      try simp only [List.getElem_toArray, List.getElem_cons_succ, List.getElem_cons_zero, Act.put, List.setIfInBounds_toArray, List.set_cons_zero, List.set_cons_succ]
      refine Fx.take (i := 11) (v := ?_) _ rfl (by kernel_rfl) (by kernel_rfl) (by rfl) hSS ?_ ?_
      rotate_left
      · (intro w' hSw; (try dsimp only at hSw); go_simp; first | done | with_reducible rfl)
      try simp only [List.getElem_toArray, List.getElem_cons_succ, List.getElem_cons_zero, Act.put, List.setIfInBounds_toArray, List.set_cons_zero, List.set_cons_succ]
      refine Fx.done 1 (by kernel_rfl) (by kernel_rfl) (fun w4 hC => ?_)
      have HC4 := Lib.hid hC.2
      have f0 := HC4.out.cell 0
      have f1 := HC4.out.cell 1
      have f2 := HC4.out.lt
      have HF := Lib.hid (HFIN.out w4 hC)
      clear hC hSS hP0 HFIN
      go_wp2_with fail
      refine bodyPost_ret (v := .tuple #[.agg #[.slice ga k gc, .int .i64 last], .bool (decide (k < l.length))]) (by simp [results, Try.results63, go_sem, f0, f1, f2]) rfl ⟨.slice ga k gc, by rw [HE.out]; rfl, HF.out.1, HF.out.2⟩
end Go.Proofs.Ytceocpohdckkoaa.Ag
