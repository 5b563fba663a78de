/- The reference's Add. (Printed by mkAgJ.py.) -/
import Derived.Test.YtceocpohdckkoaaAgI
namespace Go.Proofs.Ytceocpohdckkoaa.Ag
open Go.RowKit Mem
set_option linter.unusedSimpArgs false
set_option linter.unusedVariables false
set_option maxRecDepth 100000

theorem ins_at {l : List It} {x : It} {i : Nat} (h1 : ∀ s ∈ l.take i, soon s x = true) (h2 : ∀ s, (l.drop i).head? = some s → soon s x = false) : insI l x = l.take i ++ [x] ++ l.drop i := by
  have hs := List.take_append_drop i l
  have hd : (l.drop i).takeWhile (fun s => soon s x) = [] ∧ (l.drop i).dropWhile (fun s => soon s x) = l.drop i := by
    cases hh : l.drop i with
    | nil => exact ⟨rfl, rfl⟩
    | cons s r =>
      have := h2 s (by rw [hh]; rfl)
      rw [List.takeWhile_cons, List.dropWhile_cons, this]
      exact ⟨rfl, rfl⟩
  unfold insI
  have e1 : l.takeWhile (fun s => soon s x) = l.take i := by
    conv => lhs; rw [← hs]
    rw [List.takeWhile_append_of_pos (fun a ha => h1 a ha), hd.1, List.append_nil]
  have e2 : l.dropWhile (fun s => soon s x) = l.drop i := by
    conv => lhs; rw [← hs]
    rw [List.dropWhile_append_of_pos (fun a ha => h1 a ha), hd.2]
  rw [e1, e2]; simp
def RaddP (v : Value) (last : Int) (l : List It) (at' what : Int) (w : World) (e : Ending) (w' : World) : Prop :=
  if 4096 ≤ l.length then e = .returned (.tuple #[agV v last, .int .i64 0, .int .i64 7]) ∧ Mod w w' []
  else ∃ v', e = .returned (.tuple #[agV v' (last + 1), .int .i64 (last + 1), .int .i64 0]) ∧ Mod w w' [] ∧ RfAt w' v' (insI l (at', last + 1, what))
set_option maxHeartbeats 8000000 in
theorem radd_calls (v : Value) (last : Int) (l : List It) (x1 x3 : Int) (w : World) (h : RfAt w v l) (hn : l.length ≤ 5000) (hb : 0 ≤ last ∧ last ≤ 1000000000) :
    Calls Try.prog 62 #[agV v last, .int .i64 x1, .int .i64 x3] w (RaddP v last l x1 x3 w) := by
  obtain ⟨i0, hi0, hz0, hz1, hz2⟩ := info_parts info_rit
  obtain ⟨hb1, hb2⟩ := hb
  have hw1 := IntWalk.i64_in (last + 1) (by omega)
  have HR := Lib.hid h
  obtain ⟨a, c, rfl⟩ := h.slice
  have hn' : (l.length : Int) ≤ 5000 := by omega
  by_cases hfull : 4096 ≤ l.length
  · have hf' : (4096 : Int) ≤ l.length := by omega
    have HF : Hid (RaddP (.slice a l.length c) last l x1 x3 w (.returned (.tuple #[.agg #[.slice a l.length c, .int .i64 last], .int .i64 0, .int .i64 7])) ((w.alloc (.cells #[.slice a l.length c, .int .i64 last] 75)).alloc (.cells #[.slice a l.length c, .int .i64 last] 75))) := Lib.hid (by
      unfold RaddP; rw [if_pos hfull]; exact ⟨rfl, ((Mod.refl _ _).alloc _).alloc _⟩)
    clear h hfull
    show Calls _ _ #[.agg #[.slice a l.length c, .int .i64 last], .int .i64 x1, .int .i64 x3] _ _
    go_enter Try.func62, Try.ntmps62
    go_wp2_with fail
    refine bodyPost_ret (v := .tuple #[.agg #[.slice a l.length c, .int .i64 last], .int .i64 0, .int .i64 7]) (by simp [results, Try.results62, go_sem]) rfl HF.out
  have hf' : (l.length : Int) < 4096 := by omega
  obtain ⟨x2, hx2⟩ : ∃ x2, x2 = last + 1 := ⟨_, rfl⟩
  have HFL : Hid (∀ w' ga k gc, Mod w w' [] ∧ RfAt w' (.slice ga k gc) (insI l (x1, x2, x3)) → RaddP (.slice a l.length c) last l x1 x3 w (.returned (.tuple #[.agg #[.slice ga k gc, .int .i64 x2], .int .i64 x2, .int .i64 0])) w') := Lib.hid (fun w' ga k gc hq => by
    unfold RaddP; rw [if_neg hfull]; rw [hx2] at hq ⊢; exact ⟨_, rfl, hq.1, hq.2⟩)
  have HM0 := Lib.hid ((((Mod.refl w []).alloc (.cells #[.slice a l.length c, .int .i64 last] 75)).alloc (.cells #[.slice none 0 0, .int .i64 0] 75)).alloc (.cells #[.int .i64 x1, .int .i64 x2, .int .i64 x3] 127))
  have HB0 := Lib.hid (((Blk.new w #[.slice a l.length c, .int .i64 last] 75).alloc (.cells #[.slice none 0 0, .int .i64 0] 75)).alloc (.cells #[.int .i64 x1, .int .i64 x2, .int .i64 x3] 127))
  have hc0 := (Blk.new (w.alloc (.cells #[.slice a l.length c, .int .i64 last] 75)) #[.slice none 0 0, .int .i64 0] 75).alloc (.cells #[.int .i64 x1, .int .i64 x2, .int .i64 x3] 127)
  rw [World.size_alloc] at hc0
  have HC0 := Lib.hid hc0
  have hd0 := Blk.new ((w.alloc (.cells #[.slice a l.length c, .int .i64 last] 75)).alloc (.cells #[.slice none 0 0, .int .i64 0] 75)) #[.int .i64 x1, .int .i64 x2, .int .i64 x3] 127
  rw [World.size_alloc, World.size_alloc] at hd0
  have HD0 := Lib.hid hd0
  have HWZ : Hid ((((w.alloc (.cells #[.slice a l.length c, .int .i64 last] 75)).alloc (.cells #[.slice none 0 0, .int .i64 0] 75)).alloc (.cells #[.int .i64 x1, .int .i64 x2, .int .i64 x3] 127)).heap.size = w.heap.size + 3) := Lib.hid (by rw [World.size_alloc, World.size_alloc, World.size_alloc])
  have AH := Lib.hid (fun s w => rahead_calls s (x1, x2, x3) w)
  have HX2 := Lib.hid hx2
  clear h hc0 hd0 hfull
  show Calls _ _ #[.agg #[.slice a l.length c, .int .i64 last], .int .i64 x1, .int .i64 x3] _ _
  go_enter Try.func62, Try.ntmps62
  rw [← hx2] at hw1
  have hx2' := hx2.symm
  clear hx2
  go_wp2_with fail
  have HF : Hid (∀ y, Mod (((w.alloc (.cells #[.slice a l.length c, .int .i64 last] 75)).alloc (.cells #[.slice none 0 0, .int .i64 0] 75)).alloc (.cells #[.int .i64 x1, .int .i64 x2, .int .i64 x3] 127)) y [] → Mod w y [] ∧ y.cell? ⟨w.heap.size, 0, none⟩ = some (.slice a l.length c) ∧ y.cell? ⟨w.heap.size, 1, none⟩ = some (.int .i64 last) ∧ y.cell? ⟨w.heap.size + 2, 0, none⟩ = some (.int .i64 x1) ∧ y.cell? ⟨w.heap.size + 2, 1, none⟩ = some (.int .i64 x2) ∧ y.cell? ⟨w.heap.size + 2, 2, none⟩ = some (.int .i64 x3) ∧ Blk y (w.heap.size + 1) #[.slice none 0 0, .int .i64 0] 75) := Lib.hid (fun y hy =>
    ⟨HM0.out.trans0 hy, (HB0.out.mod hy (by simp)).cell 0, (HB0.out.mod hy (by simp)).cell 1, (HD0.out.mod hy (by simp)).cell 0, (HD0.out.mod hy (by simp)).cell 1, (HD0.out.mod hy (by simp)).cell 2, HC0.out.mod hy (by simp)⟩)
  generalize ((w.alloc _).alloc _).alloc _ = W at HF HWZ ⊢
  clear HM0 HB0 HC0 HD0
  go_loopw [10, 11] (fun vl vi wr => ∃ (i : Nat) (ga : Option Addr) (gc : Nat), i ≤ l.length ∧ vl = .slice ga i gc ∧ vi = .int .i64 (i : Int) ∧ Mod W wr [] ∧ Hid (∀ s ∈ l.take i, soon s (x1, x2, x3) = true) ∧ wr.ownsRow (w.heap.size + 3) 127 3 (.slice ga i gc) i (rowsI (l.take i))) (fun _ vi _ => l.length + 1 - (intOf vi).toNat)
  case atStart => exact ⟨0, none, 0, Nat.zero_le _, rfl, rfl, Mod.refl _ _, Lib.hid (by simp), World.ownsRow_nil _ _ _ _⟩
  case round =>
    obtain ⟨i, ga, gc, hi, rfl, rfl, hm, HT, hown⟩ := hrel
    have HMW := Lib.hid hm
    have HO := Lib.hid hown
    obtain ⟨hmw, c0, c1, t0, t1, t2, hcb⟩ := HF.out wr hm
    have HCB := Lib.hid hcb
    have hil : (i : Int) ≤ l.length := by omega
    clear hm hown hcb
    by_cases hgo : ∃ h : i < l.length, soon l[i] (x1, x2, x3) = true
    · obtain ⟨hlt, hs⟩ := hgo
      have hlt' : (i : Int) < l.length := by omega
      obtain ⟨g, off, cap, hv, hg, d0, d1, d2⟩ := HR.out.cells i hlt
      injection hv with q1 q2 q3
      subst q1 q3
      have HTT : Hid (∀ s ∈ l.take (i + 1), soon s (x1, x2, x3) = true) := Lib.hid (fun s hm => by
        rw [List.take_succ_eq_append_getElem hlt, List.mem_append] at hm
        rcases hm with hm | hm
        · exact HT.out s hm
        · obtain rfl : s = l[i] := (by simpa using hm)
          exact hs)
      have HRS : Hid (rowsI (l.take (i + 1)) = rowsI (l.take i) ++ itC l[i]) := Lib.hid (by rw [List.take_succ_eq_append_getElem hlt, rowsI_append]; simp [rowsI])
      have AH1 := Lib.hid (AH.out l[i])
      rw [hs] at AH1
      have HYC := Lib.hid (fun y (hy : Mod w y []) => (⟨keepC hy d0, keepC hy d1, keepC hy d2⟩ : _ ∧ _ ∧ _))
      clear d0 d1 d2 q2 hs
      generalize l[i] = y at *
      obtain ⟨y1, y2, y3⟩ := y
      have AH2 : Hid (∀ w, Calls Try.prog 77 #[.agg #[.int .i64 y1, .int .i64 y2, .int .i64 y3], .agg #[.int .i64 x1, .int .i64 x2, .int .i64 x3]] w fun e w' => e = .returned (.bool true) ∧ Mod w w' []) := AH1
      simp only at HYC
      obtain ⟨e0, e1, e2⟩ := HYC.out wr hmw
      clear AH1
      generalize hys : rowsI (l.take i) = ys at *
      go_wp2_with fail
      refine Fx.wp_region_f [] (fun _ w' => Mod wr w' []) (by kernel_rfl) (by decide) (Mod.refl _ _).drew ?_
      have hSS : ∀ (m' : Nat) w', Mod wr w' [] → _ := fun m' w' h => (⟨keepC h c0, keepC h t0, keepC h t1, keepC h t2, keepC h e0, keepC h e1, keepC h e2⟩ : _ ∧ _ ∧ _ ∧ _ ∧ _ ∧ _ ∧ _)
      refine Fx.take (i := 0) (v := ?_) _ rfl (by kernel_rfl) (by kernel_rfl) (by rfl) hSS ?_ ?_
      rotate_left
      · (intro w' hSw; (try dsimp only at hSw); go_simp; first | done | with_reducible rfl)
      try simp only [List.getElem_toArray, List.getElem_cons_succ, List.getElem_cons_zero, Act.put, List.setIfInBounds_toArray, List.set_cons_zero, List.set_cons_succ]
      refine Fx.take (i := 1) (v := ?_) _ rfl (by kernel_rfl) (by kernel_rfl) (by rfl) hSS ?_ ?_
      rotate_left
      · (intro w' hSw; (try dsimp only at hSw); go_simp; first | done | with_reducible rfl)
      try simp only [List.getElem_toArray, List.getElem_cons_succ, List.getElem_cons_zero, Act.put, List.setIfInBounds_toArray, List.set_cons_zero, List.set_cons_succ]
      refine Fx.take (i := 2) (v := ?_) _ rfl (by kernel_rfl) (by kernel_rfl) (by rfl) hSS ?_ ?_
      rotate_left
      · (intro w' hSw; (try dsimp only at hSw); go_simp; first | done | with_reducible rfl)
      try simp only [List.getElem_toArray, List.getElem_cons_succ, List.getElem_cons_zero, Act.put, List.setIfInBounds_toArray, List.set_cons_zero, List.set_cons_succ]
      refine Fx.take (i := 3) (v := ?_) _ rfl (by kernel_rfl) (by kernel_rfl) (by rfl) hSS ?_ ?_
      rotate_left
      · (intro w' hSw; (try dsimp only at hSw); go_simp; first | done | with_reducible rfl)
      try simp only [List.getElem_toArray, List.getElem_cons_succ, List.getElem_cons_zero, Act.put, List.setIfInBounds_toArray, List.set_cons_zero, List.set_cons_succ]
      refine Fx.take (i := 4) (v := ?_) _ rfl (by kernel_rfl) (by kernel_rfl) (by rfl) hSS ?_ ?_
      rotate_left
      · (intro w' hSw; (try dsimp only at hSw); go_simp; first | done | with_reducible rfl)
      try simp only [List.getElem_toArray, List.getElem_cons_succ, List.getElem_cons_zero, Act.put, List.setIfInBounds_toArray, List.set_cons_zero, List.set_cons_succ]
      refine Fx.take (i := 5) (v := ?_) _ rfl (by kernel_rfl) (by kernel_rfl) (by rfl) hSS ?_ ?_
      rotate_left
      · (intro w' hSw; (try dsimp only at hSw); go_simp; first | done | with_reducible rfl)
      try simp only [List.getElem_toArray, List.getElem_cons_succ, List.getElem_cons_zero, Act.put, List.setIfInBounds_toArray, List.set_cons_zero, List.set_cons_succ]
      refine Fx.take (i := 6) (v := ?_) _ rfl (by kernel_rfl) (by kernel_rfl) (by rfl) hSS ?_ ?_
      rotate_left
      · (intro w' hSw; (try dsimp only at hSw); go_simp; first | done | with_reducible rfl)
      try simp only [List.getElem_toArray, List.getElem_cons_succ, List.getElem_cons_zero, Act.put, List.setIfInBounds_toArray, List.set_cons_zero, List.set_cons_succ]
      refine Fx.take (i := 7) (v := ?_) _ rfl (by kernel_rfl) (by kernel_rfl) (by rfl) hSS ?_ ?_
      rotate_left
      · (intro w' hSw; (try dsimp only at hSw); go_simp; first | done | with_reducible rfl)
      try simp only [List.getElem_toArray, List.getElem_cons_succ, List.getElem_cons_zero, Act.put, List.setIfInBounds_toArray, List.set_cons_zero, List.set_cons_succ]
      refine Fx.take (i := 8) (v := ?_) _ rfl (by kernel_rfl) (by kernel_rfl) (by rfl) hSS ?_ ?_
      rotate_left
      · (intro w' hSw; (try dsimp only at hSw); go_simp; first | done | with_reducible rfl)
      try simp only [List.getElem_toArray, List.getElem_cons_succ, List.getElem_cons_zero, Act.put, List.setIfInBounds_toArray, List.set_cons_zero, List.set_cons_succ]
      refine Fx.take (i := 9) (v := ?_) _ rfl (by kernel_rfl) (by kernel_rfl) (by rfl) hSS ?_ ?_
      rotate_left
      · (intro w' hSw; (try dsimp only at hSw); go_simp; first | done | with_reducible rfl)
      try simp only [List.getElem_toArray, List.getElem_cons_succ, List.getElem_cons_zero, Act.put, List.setIfInBounds_toArray, List.set_cons_zero, List.set_cons_succ]
      refine Fx.take (i := 10) (v := ?_) _ rfl (by kernel_rfl) (by kernel_rfl) (by rfl) hSS ?_ ?_
      rotate_left
      · (intro w' hSw; (try dsimp only at hSw); go_simp; first | done | with_reducible rfl)
      try simp only [List.getElem_toArray, List.getElem_cons_succ, List.getElem_cons_zero, Act.put, List.setIfInBounds_toArray, List.set_cons_zero, List.set_cons_succ]
      refine Fx.take (i := 11) (v := ?_) _ rfl (by kernel_rfl) (by kernel_rfl) (by rfl) hSS ?_ ?_
      rotate_left
      · (intro w' hSw; (try dsimp only at hSw); go_simp; first | done | with_reducible rfl)
      try simp only [List.getElem_toArray, List.getElem_cons_succ, List.getElem_cons_zero, Act.put, List.setIfInBounds_toArray, List.set_cons_zero, List.set_cons_succ]
      refine Fx.call' (i := 12) rfl (by kernel_rfl) (by kernel_rfl) (by rfl) ?_
      apply Exists.intro
      apply Exists.intro
      apply Exists.intro
      refine ⟨?_, ?_, ?_⟩
      · (intro w'; go_simp; first | done | (refine ⟨?_, ?_⟩ <;> with_reducible rfl) | with_reducible rfl)
      · (exact fun m w' h => (AH2.out w').mono fun _ _ ⟨he, hw⟩ => ⟨he, h.trans0 hw⟩)
      try simp only [List.getElem_toArray, List.getElem_cons_succ, List.getElem_cons_zero, Act.put, List.setIfInBounds_toArray, List.set_cons_zero, List.set_cons_succ]
      refine Fx.take (i := 13) (v := ?_) _ rfl (by kernel_rfl) (by kernel_rfl) (by rfl) hSS ?_ ?_
      rotate_left
      · (intro w' hSw; (try dsimp only at hSw); go_simp; first | done | with_reducible rfl)
      try simp only [List.getElem_toArray, List.getElem_cons_succ, List.getElem_cons_zero, Act.put, List.setIfInBounds_toArray, List.set_cons_zero, List.set_cons_succ]
      refine Fx.done 0 (by kernel_rfl) (by kernel_rfl) (fun wq hC => ?_)
      have HMQ := Lib.hid (HMW.out.trans0 hC)
      have HOQ := Lib.hid (own_mod HO.out hC (by simp))
      clear hC hSS c0 c1 t0 t1 t2 e0 e1 e2
      obtain ⟨hmq, c0, c1, t0, t1, t2, hcb⟩ := HF.out wq HMQ.out
      obtain ⟨e0, e1, e2⟩ := HYC.out wq hmq
      clear hcb
      have H3A := Lib.hid (it_three (Blk.new wq #[.int .i64 y1, .int .i64 y2, .int .i64 y3] 127))
      have HGEA := Lib.hid (own_ge HOQ.out)
      have hszA := HMQ.out.size
      go_wp2_with (at_builtin; refine hold ?_)
      refine Lib.hid ?_
      refine wpList_append_own _ rfl _ _ 73 rfl (w.heap.size + 3) 127 i0 _ 3 24 Try.underlying73 hi0 hz0 hz1 hz2 rfl (by decide) _ i _ rfl (HOQ.out.alloc _) ⟨wq.heap.size, 0, none⟩ 1 1 [.int .i64 y1, .int .i64 y2, .int .i64 y3] rfl rfl H3A.out (by simp [Value.oneCell']) (by unfold maxLen; omega) (by omega) (by have := HWZ.out; rw [World.size_alloc]; omega) ?_
      intro vA wA hownA hgrowA hnil
      clear hnil
      obtain ⟨gaA, gcA, rfl⟩ := Rw.own_slice hownA
      have HOA := Lib.hid hownA
      have HMA := Lib.hid ((HMQ.out.alloc (.cells #[.int .i64 y1, .int .i64 y2, .int .i64 y3] 127)).grown hgrowA (fun j hj => .inr (by have := HGEA.out j hj; have := HWZ.out; omega)))
      clear hownA hgrowA
      go_wp2_with fail
      go_roundw
      case rel =>
        refine ⟨i + 1, gaA, gcA, by omega, rfl, by go_num, HMA.out, HTT, ?_⟩
        rw [HRS.out]; exact HOA.out
      case measure => simp [intOf]; omega
    · have HT2 : Hid (∀ s, (l.drop i).head? = some s → soon s (x1, x2, x3) = false) := Lib.hid (fun s hs => by
        rcases Nat.lt_or_ge i l.length with hlt | hge
        · rw [List.drop_eq_getElem_cons hlt] at hs
          injection hs with hs
          subst hs
          cases hh : soon l[i] (x1, x2, x3) with
          | false => rfl
          | true => exact absurd ⟨hlt, hh⟩ hgo
        · rw [List.drop_eq_nil_of_le hge] at hs; cases hs)
      have HIN := Lib.hid (ins_at HT.out HT2.out)
      rcases Nat.lt_or_ge i l.length with hlt | hge
      · have hlt' : (i : Int) < l.length := by omega
        obtain ⟨g, off, cap, hv, hg, d0, d1, d2⟩ := HR.out.cells i hlt
        injection hv with q1 q2 q3
        have HQ := Lib.hid (⟨q1, q3⟩ : _ ∧ _)
        have AH1 := Lib.hid (AH.out l[i])
        rw [HT2.out l[i] (by rw [List.drop_eq_getElem_cons hlt]; rfl)] at AH1
        have e0 := keepC hmw d0
        have e1 := keepC hmw d1
        have e2 := keepC hmw d2
        clear d0 d1 d2 q2 q1 q3 hgo
        generalize l[i] = y at *
        obtain ⟨y1, y2, y3⟩ := y
        have AH2 : Hid (∀ w, Calls Try.prog 77 #[.agg #[.int .i64 y1, .int .i64 y2, .int .i64 y3], .agg #[.int .i64 x1, .int .i64 x2, .int .i64 x3]] w fun e w' => e = .returned (.bool false) ∧ Mod w w' []) := AH1
        simp only at e0 e1 e2
        clear AH1
        obtain ⟨r1, r3⟩ := HQ.out
        subst r1 r3
        clear HQ
        go_wp2_with fail
        refine Fx.wp_region_f [] (fun _ w' => Mod wr w' []) (by kernel_rfl) (by decide) (Mod.refl _ _).drew ?_
        have hSS : ∀ (m' : Nat) w', Mod wr w' [] → _ := fun m' w' h => (⟨keepC h c0, keepC h t0, keepC h t1, keepC h t2, keepC h e0, keepC h e1, keepC h e2⟩ : _ ∧ _ ∧ _ ∧ _ ∧ _ ∧ _ ∧ _)
        refine Fx.take (i := 0) (v := ?_) _ rfl (by kernel_rfl) (by kernel_rfl) (by rfl) hSS ?_ ?_
        rotate_left
        · (intro w' hSw; (try dsimp only at hSw); go_simp; first | done | with_reducible rfl)
        try simp only [List.getElem_toArray, List.getElem_cons_succ, List.getElem_cons_zero, Act.put, List.setIfInBounds_toArray, List.set_cons_zero, List.set_cons_succ]
        refine Fx.take (i := 1) (v := ?_) _ rfl (by kernel_rfl) (by kernel_rfl) (by rfl) hSS ?_ ?_
        rotate_left
        · (intro w' hSw; (try dsimp only at hSw); go_simp; first | done | with_reducible rfl)
        try simp only [List.getElem_toArray, List.getElem_cons_succ, List.getElem_cons_zero, Act.put, List.setIfInBounds_toArray, List.set_cons_zero, List.set_cons_succ]
        refine Fx.take (i := 2) (v := ?_) _ rfl (by kernel_rfl) (by kernel_rfl) (by rfl) hSS ?_ ?_
        rotate_left
        · (intro w' hSw; (try dsimp only at hSw); go_simp; first | done | with_reducible rfl)
        try simp only [List.getElem_toArray, List.getElem_cons_succ, List.getElem_cons_zero, Act.put, List.setIfInBounds_toArray, List.set_cons_zero, List.set_cons_succ]
        refine Fx.take (i := 3) (v := ?_) _ rfl (by kernel_rfl) (by kernel_rfl) (by rfl) hSS ?_ ?_
        rotate_left
        · (intro w' hSw; (try dsimp only at hSw); go_simp; first | done | with_reducible rfl)
        try simp only [List.getElem_toArray, List.getElem_cons_succ, List.getElem_cons_zero, Act.put, List.setIfInBounds_toArray, List.set_cons_zero, List.set_cons_succ]
        refine Fx.take (i := 4) (v := ?_) _ rfl (by kernel_rfl) (by kernel_rfl) (by rfl) hSS ?_ ?_
        rotate_left
        · (intro w' hSw; (try dsimp only at hSw); go_simp; first | done | with_reducible rfl)
        try simp only [List.getElem_toArray, List.getElem_cons_succ, List.getElem_cons_zero, Act.put, List.setIfInBounds_toArray, List.set_cons_zero, List.set_cons_succ]
        refine Fx.take (i := 5) (v := ?_) _ rfl (by kernel_rfl) (by kernel_rfl) (by rfl) hSS ?_ ?_
        rotate_left
        · (intro w' hSw; (try dsimp only at hSw); go_simp; first | done | with_reducible rfl)
        try simp only [List.getElem_toArray, List.getElem_cons_succ, List.getElem_cons_zero, Act.put, List.setIfInBounds_toArray, List.set_cons_zero, List.set_cons_succ]
        refine Fx.take (i := 6) (v := ?_) _ rfl (by kernel_rfl) (by kernel_rfl) (by rfl) hSS ?_ ?_
        rotate_left
        · (intro w' hSw; (try dsimp only at hSw); go_simp; first | done | with_reducible rfl)
        try simp only [List.getElem_toArray, List.getElem_cons_succ, List.getElem_cons_zero, Act.put, List.setIfInBounds_toArray, List.set_cons_zero, List.set_cons_succ]
        refine Fx.take (i := 7) (v := ?_) _ rfl (by kernel_rfl) (by kernel_rfl) (by rfl) hSS ?_ ?_
        rotate_left
        · (intro w' hSw; (try dsimp only at hSw); go_simp; first | done | with_reducible rfl)
        try simp only [List.getElem_toArray, List.getElem_cons_succ, List.getElem_cons_zero, Act.put, List.setIfInBounds_toArray, List.set_cons_zero, List.set_cons_succ]
        refine Fx.take (i := 8) (v := ?_) _ rfl (by kernel_rfl) (by kernel_rfl) (by rfl) hSS ?_ ?_
        rotate_left
        · (intro w' hSw; (try dsimp only at hSw); go_simp; first | done | with_reducible rfl)
        try simp only [List.getElem_toArray, List.getElem_cons_succ, List.getElem_cons_zero, Act.put, List.setIfInBounds_toArray, List.set_cons_zero, List.set_cons_succ]
        refine Fx.take (i := 9) (v := ?_) _ rfl (by kernel_rfl) (by kernel_rfl) (by rfl) hSS ?_ ?_
        rotate_left
        · (intro w' hSw; (try dsimp only at hSw); go_simp; first | done | with_reducible rfl)
        try simp only [List.getElem_toArray, List.getElem_cons_succ, List.getElem_cons_zero, Act.put, List.setIfInBounds_toArray, List.set_cons_zero, List.set_cons_succ]
        refine Fx.take (i := 10) (v := ?_) _ rfl (by kernel_rfl) (by kernel_rfl) (by rfl) hSS ?_ ?_
        rotate_left
        · (intro w' hSw; (try dsimp only at hSw); go_simp; first | done | with_reducible rfl)
        try simp only [List.getElem_toArray, List.getElem_cons_succ, List.getElem_cons_zero, Act.put, List.setIfInBounds_toArray, List.set_cons_zero, List.set_cons_succ]
        refine Fx.take (i := 11) (v := ?_) _ rfl (by kernel_rfl) (by kernel_rfl) (by rfl) hSS ?_ ?_
        rotate_left
        · (intro w' hSw; (try dsimp only at hSw); go_simp; first | done | with_reducible rfl)
        try simp only [List.getElem_toArray, List.getElem_cons_succ, List.getElem_cons_zero, Act.put, List.setIfInBounds_toArray, List.set_cons_zero, List.set_cons_succ]
        refine Fx.call' (i := 12) rfl (by kernel_rfl) (by kernel_rfl) (by rfl) ?_
        apply Exists.intro
        apply Exists.intro
        apply Exists.intro
        refine ⟨?_, ?_, ?_⟩
        · (intro w'; go_simp; first | done | (refine ⟨?_, ?_⟩ <;> with_reducible rfl) | with_reducible rfl)
        · (exact fun m w' h => (AH2.out w').mono fun _ _ ⟨he, hw⟩ => ⟨he, h.trans0 hw⟩)
        try simp only [List.getElem_toArray, List.getElem_cons_succ, List.getElem_cons_zero, Act.put, List.setIfInBounds_toArray, List.set_cons_zero, List.set_cons_succ]
        refine Fx.take (i := 13) (v := ?_) _ rfl (by kernel_rfl) (by kernel_rfl) (by rfl) hSS ?_ ?_
        rotate_left
        · (intro w' hSw; (try dsimp only at hSw); go_simp; first | done | with_reducible rfl)
        try simp only [List.getElem_toArray, List.getElem_cons_succ, List.getElem_cons_zero, Act.put, List.setIfInBounds_toArray, List.set_cons_zero, List.set_cons_succ]
        refine Fx.done 0 (by kernel_rfl) (by kernel_rfl) (fun wq hC => ?_)
        have HMQ := Lib.hid (HMW.out.trans0 hC)
        have HOQ := Lib.hid (own_mod HO.out hC (by simp))
        clear hC hSS c0 c1 t0 t1 t2 e0 e1 e2 hlt hlt' AH2 HT HT2 hg
        obtain ⟨hmq, c0, c1, t0, t1, t2, hcb⟩ := HF.out wq HMQ.out
        clear hcb
        clear hmw
        generalize hys : rowsI (l.take i) = ys at *
        have H3A := Lib.hid (it_three (Blk.new wq #[.int .i64 x1, .int .i64 x2, .int .i64 x3] 127))
        have HGEA := Lib.hid (own_ge HOQ.out)
        have hszA := HMQ.out.size
        go_wp2_with (at_builtin; refine hold ?_)
        refine Lib.hid ?_
        refine wpList_append_own _ rfl _ _ 73 rfl (w.heap.size + 3) 127 i0 _ 3 24 Try.underlying73 hi0 hz0 hz1 hz2 rfl (by decide) _ i _ rfl (HOQ.out.alloc _) ⟨wq.heap.size, 0, none⟩ 1 1 [.int .i64 x1, .int .i64 x2, .int .i64 x3] rfl rfl H3A.out (by simp [Value.oneCell']) (by unfold maxLen; omega) (by omega) (by have := HWZ.out; rw [World.size_alloc]; omega) ?_
        intro vA wA hownA hgrowA hnil
        clear hnil
        obtain ⟨gaA, gcA, rfl⟩ := Rw.own_slice hownA
        have HOA := Lib.hid hownA
        have HMA := Lib.hid ((HMQ.out.alloc (.cells #[.int .i64 x1, .int .i64 x2, .int .i64 x3] 127)).grown hgrowA (fun j hj => .inr (by have := HGEA.out j hj; have := HWZ.out; omega)))
        clear hownA hgrowA
        have HYS := Lib.hid hys
        have HMA0 := Lib.hid (HF.out wA HMA.out)
        clear hys c0 c1 t0 t1 t2 hmq
        go_wp2_with fail
        go_loopw [10, 11] (fun vl vi wr => ∃ (j : Nat) (ga : Option Addr) (gc : Nat), i ≤ j ∧ j ≤ l.length ∧ vl = .slice ga (j + 1) gc ∧ vi = .int .i64 (j : Int) ∧ Mod W wr [] ∧ wr.ownsRow (w.heap.size + 3) 127 3 (.slice ga (j + 1) gc) (j + 1) (ys ++ itC (x1, x2, x3) ++ rowsI ((l.take j).drop i))) (fun _ vi _ => l.length + 1 - (intOf vi).toNat)
        case atStart => exact ⟨i, gaA, gcA, Nat.le_refl _, hi, by go_num, rfl, HMA.out, by
          rw [show (l.take i).drop i = [] from List.drop_eq_nil_of_le (by rw [List.length_take]; omega), show rowsI [] = [] from rfl, List.append_nil]; exact HOA.out⟩
        case round =>
          obtain ⟨j, gb, gd, hij, hjl, rfl, rfl, hm2, hown2⟩ := hrel
          have HMZ := Lib.hid hm2
          have HOZ := Lib.hid hown2
          obtain ⟨hmz, c0, c1, t0, t1, t2, hcb⟩ := HF.out wr hm2
          have HCB := Lib.hid hcb
          have hj5 : (j : Int) ≤ l.length := by omega
          clear hm2 hown2 hcb
          rcases Nat.lt_or_ge j l.length with hlt | hge
          · have hlt' : (j : Int) < l.length := by omega
            obtain ⟨g, off, cap, hv, hg, d0, d1, d2⟩ := HR.out.cells j hlt
            injection hv with q1 q2 q3
            have HRS : Hid (rowsI ((l.take (j + 1)).drop i) = rowsI ((l.take j).drop i) ++ itC l[j]) := Lib.hid (by
              rw [List.take_succ_eq_append_getElem hlt, List.drop_append_of_le_length (by rw [List.length_take]; omega), rowsI_append]; simp [rowsI])
            have e0 := keepC hmz d0
            have e1 := keepC hmz d1
            have e2 := keepC hmz d2
            clear d0 d1 d2 q2
            generalize l[j] = y at *
            obtain ⟨y1, y2, y3⟩ := y
            simp only at e0 e1 e2
            first | subst q1 q3 | (injection q1 with q1; injection q1 with qa qb qc; subst qa qb q3)
            generalize hzs : ys ++ itC (x1, x2, x3) ++ rowsI ((l.take j).drop i) = zs at *
            have H3B := Lib.hid (it_three (Blk.new wr #[.int .i64 y1, .int .i64 y2, .int .i64 y3] 127))
            have HGEB := Lib.hid (own_ge HOZ.out)
            have hszB := HMZ.out.size
            go_wp2_with (at_builtin; refine hold ?_)
            refine Lib.hid ?_
            refine wpList_append_own _ rfl _ _ 73 rfl (w.heap.size + 3) 127 i0 _ 3 24 Try.underlying73 hi0 hz0 hz1 hz2 rfl (by decide) _ (j + 1) _ rfl (HOZ.out.alloc _) ⟨wr.heap.size, 0, none⟩ 1 1 [.int .i64 y1, .int .i64 y2, .int .i64 y3] rfl rfl H3B.out (by simp [Value.oneCell']) (by unfold maxLen; omega) (by omega) (by have := HWZ.out; rw [World.size_alloc]; omega) ?_
            intro vB wB hownB hgrowB hnil
            clear hnil
            obtain ⟨gaB, gcB, rfl⟩ := Rw.own_slice hownB
            have HOB := Lib.hid hownB
            have HMB := Lib.hid ((HMZ.out.alloc (.cells #[.int .i64 y1, .int .i64 y2, .int .i64 y3] 127)).grown hgrowB (fun j hj => .inr (by have := HGEB.out j hj; have := HWZ.out; omega)))
            clear hownB hgrowB
            go_wp2_with fail
            go_roundw
            case rel =>
              refine ⟨j + 1, gaB, gcB, by omega, by omega, by go_num, by go_num, HMB.out, ?_⟩
              rw [HRS.out, ← List.append_assoc, hzs]; exact HOB.out
            case measure => simp [intOf]; omega
          · have hge' : (l.length : Int) ≤ j := by omega
            have hje : j = l.length := by omega
            have HFIN : Hid (∀ w4, RtC wr (w.heap.size + 1) (.slice gb (j + 1) gd) (.int .i64 x2) 1 w4 → Mod w w4 [] ∧ RfAt w4 (.slice gb (j + 1) gd) (insI l (x1, x2, x3))) := Lib.hid (fun w4 hC => by
              have h1 := HOZ.out
              refine ⟨hmz.trans hC.1 (fun r hr => .inr (by simp at hr; omega)), ?_⟩
              have h3 : RoAt w4 (w.heap.size + 3) (.slice gb (j + 1) gd) (insI l (x1, x2, x3)) := by
                unfold RoAt
                rw [show (insI l (x1, x2, x3)).length = j + 1 by rw [HIN.out]; simp; omega, show rowsI (insI l (x1, x2, x3)) = ys ++ itC (x1, x2, x3) ++ rowsI ((l.take j).drop i) by
                  rw [HIN.out, rowsI_append, rowsI_append, HYS.out, hje, List.take_length]; simp [rowsI]]
                exact own_mod h1 hC.1 (fun j hj => by have := own_ge h1 j hj; simp; omega)
              exact h3.rf)
            have hAB : w.heap.size ≠ w.heap.size + 1 := by omega
            have hAC : w.heap.size + 2 ≠ w.heap.size + 1 := by omega
            clear hje
            go_wp2_with fail
            refine Fx.wp_region_f [7] (RtC wr (w.heap.size + 1) (.slice gb (j + 1) gd) (.int .i64 x2)) (by kernel_rfl) (by decide) (RtC.start HCB.out) ?_
            have hSS : ∀ (m' : Nat) w', RtC wr (w.heap.size + 1) (.slice gb (j + 1) gd) (.int .i64 x2) m' w' → _ := fun m' w' h => (⟨h.keep c0 hAB, h.keep c1 hAB, h.keep t1 hAC⟩ : _ ∧ _ ∧ _)
            have hP0 : ∀ w', RtC wr (w.heap.size + 1) (.slice gb (j + 1) gd) (.int .i64 x2) 0 w' → _ := fun w' h => h.store
            refine Fx.take (i := 0) (v := ?_) _ rfl (by kernel_rfl) (by kernel_rfl) (by rfl) hSS ?_ ?_
            rotate_left
            · (intro w' hSw; (try dsimp only at hSw); go_simp; first | done | with_reducible rfl)
            try simp only [List.getElem_toArray, List.getElem_cons_succ, List.getElem_cons_zero, Act.put, List.setIfInBounds_toArray, List.set_cons_zero, List.set_cons_succ]
            refine Fx.take (i := 1) (v := ?_) _ rfl (by kernel_rfl) (by kernel_rfl) (by rfl) hSS ?_ ?_
            rotate_left
            · (intro w' hSw; (try dsimp only at hSw); go_simp; first | done | with_reducible rfl)
            try simp only [List.getElem_toArray, List.getElem_cons_succ, List.getElem_cons_zero, Act.put, List.setIfInBounds_toArray, List.set_cons_zero, List.set_cons_succ]
            refine Fx.take (i := 2) (v := ?_) _ rfl (by kernel_rfl) (by kernel_rfl) (by rfl) hSS ?_ ?_
            rotate_left
            · (intro w' hSw; (try dsimp only at hSw); go_simp; first | done | with_reducible rfl)
            try simp only [List.getElem_toArray, List.getElem_cons_succ, List.getElem_cons_zero, Act.put, List.setIfInBounds_toArray, List.set_cons_zero, List.set_cons_succ]
            refine Fx.take (i := 3) (v := ?_) _ rfl (by kernel_rfl) (by kernel_rfl) (by rfl) hSS ?_ ?_
            rotate_left
            · (intro w' hSw; (try dsimp only at hSw); go_simp; first | done | with_reducible rfl)
            try simp only [List.getElem_toArray, List.getElem_cons_succ, List.getElem_cons_zero, Act.put, List.setIfInBounds_toArray, List.set_cons_zero, List.set_cons_succ]
            refine Fx.take (i := 4) (v := ?_) _ rfl (by kernel_rfl) (by kernel_rfl) (by rfl) hSS ?_ ?_
            rotate_left
            · (intro w' hSw; (try dsimp only at hSw); go_simp; first | done | with_reducible rfl)
            try simp only [List.getElem_toArray, List.getElem_cons_succ, List.getElem_cons_zero, Act.put, List.setIfInBounds_toArray, List.set_cons_zero, List.set_cons_succ]
            refine Fx.take (i := 5) (v := ?_) _ rfl (by kernel_rfl) (by kernel_rfl) (by rfl) hSS ?_ ?_
            rotate_left
            · (intro w' hSw; (try dsimp only at hSw); go_simp; first | done | with_reducible rfl)
            try simp only [List.getElem_toArray, List.getElem_cons_succ, List.getElem_cons_zero, Act.put, List.setIfInBounds_toArray, List.set_cons_zero, List.set_cons_succ]
            refine Fx.take (i := 6) (v := ?_) _ rfl (by kernel_rfl) (by kernel_rfl) (by rfl) hSS ?_ ?_
            rotate_left
            · (intro w' hSw; (try dsimp only at hSw); go_simp; first | done | with_reducible rfl)
            try simp only [List.getElem_toArray, List.getElem_cons_succ, List.getElem_cons_zero, Act.put, List.setIfInBounds_toArray, List.set_cons_zero, List.set_cons_succ]
            refine Fx.put (i := 7) 0 ?_ rfl (by kernel_rfl) (by kernel_rfl) (by rfl) (by kernel_rfl) (by kernel_rfl) ?_ ?_ ?_
            rotate_left
            · (intro w' hC; obtain hSw := hP0 _ hC; (try dsimp only at hSw); go_simp; first | done | with_reducible rfl)
            · (exact fun w' h => h.put)
            try simp only [List.getElem_toArray, List.getElem_cons_succ, List.getElem_cons_zero, Act.put, List.setIfInBounds_toArray, List.set_cons_zero, List.set_cons_succ]
            refine Fx.take (i := 8) (v := ?_) _ rfl (by kernel_rfl) (by kernel_rfl) (by rfl) hSS ?_ ?_
            rotate_left
            · (intro w' hSw; (try dsimp only at hSw); go_simp; first | done | with_reducible rfl)
            try simp only [List.getElem_toArray, List.getElem_cons_succ, List.getElem_cons_zero, Act.put, List.setIfInBounds_toArray, List.set_cons_zero, List.set_cons_succ]
            refine Fx.take (i := 9) (v := ?_) _ rfl (by kernel_rfl) (by kernel_rfl) (by rfl) hSS ?_ ?_
            rotate_left
            · (intro w' hSw; (try dsimp only at hSw); go_simp; first | done | with_reducible rfl)
            try simp only [List.getElem_toArray, List.getElem_cons_succ, List.getElem_cons_zero, Act.put, List.setIfInBounds_toArray, List.set_cons_zero, List.set_cons_succ]
            refine Fx.done 1 (by kernel_rfl) (by kernel_rfl) (fun w4 hC => ?_)
            have HC4 := Lib.hid hC.2
            have f0 := HC4.out.cell 0
            have f1 := HC4.out.cell 1
            have f2 := HC4.out.lt
            have HFF := Lib.hid (HFL.out w4 _ _ _ (HFIN.out w4 hC))
            clear hC hSS hP0 HFIN
            go_wp2_with fail
            refine bodyPost_ret (v := .tuple #[.agg #[.slice gb (j + 1) gd, .int .i64 x2], .int .i64 x2, .int .i64 0]) (by simp [results, Try.results62, go_sem, f0, f1, f2]) rfl HFF.out
      · have hge' : (l.length : Int) ≤ i := by omega
        have hd1 : decide (i < l.length) = false := decide_eq_false (by omega)
        have hd2 : decide ((i : Int) < l.length) = false := decide_eq_false (by omega)
        go_wp2_with fail
        refine Fx.wp_region_f [] (fun _ w' => Mod wr w' []) (by kernel_rfl) (by decide) (Mod.refl _ _).drew ?_
        have hSS : ∀ (m' : Nat) w', Mod wr w' [] → _ := fun m' w' h => (⟨keepC h c0, keepC h t0, keepC h t1, keepC h t2⟩ : _ ∧ _ ∧ _ ∧ _)
        refine Fx.take (i := 0) (v := ?_) _ rfl (by kernel_rfl) (by kernel_rfl) (by rfl) hSS ?_ ?_
        rotate_left
        · (intro w' hSw; (try dsimp only at hSw); go_simp; first | done | with_reducible rfl)
        try simp only [List.getElem_toArray, List.getElem_cons_succ, List.getElem_cons_zero, Act.put, List.setIfInBounds_toArray, List.set_cons_zero, List.set_cons_succ]
        refine Fx.take (i := 1) (v := ?_) _ rfl (by kernel_rfl) (by kernel_rfl) (by rfl) hSS ?_ ?_
        rotate_left
        · (intro w' hSw; (try dsimp only at hSw); go_simp; first | done | with_reducible rfl)
        try simp only [List.getElem_toArray, List.getElem_cons_succ, List.getElem_cons_zero, Act.put, List.setIfInBounds_toArray, List.set_cons_zero, List.set_cons_succ]
        refine Fx.take (i := 2) (v := ?_) _ rfl (by kernel_rfl) (by kernel_rfl) (by rfl) hSS ?_ ?_
        rotate_left
        · (intro w' hSw; (try dsimp only at hSw); go_simp; first | done | with_reducible rfl)
        try simp only [List.getElem_toArray, List.getElem_cons_succ, List.getElem_cons_zero, Act.put, List.setIfInBounds_toArray, List.set_cons_zero, List.set_cons_succ]
        refine Fx.take (i := 3) (v := ?_) _ rfl (by kernel_rfl) (by kernel_rfl) (by rfl) hSS ?_ ?_
        rotate_left
        · (intro w' hSw; (try dsimp only at hSw); go_simp; first | done | with_reducible rfl)
        try simp only [List.getElem_toArray, List.getElem_cons_succ, List.getElem_cons_zero, Act.put, List.setIfInBounds_toArray, List.set_cons_zero, List.set_cons_succ]
        refine Fx.take (i := 4) (v := ?_) _ rfl (by kernel_rfl) (by kernel_rfl) (by rfl) hSS ?_ ?_
        rotate_left
        · (intro w' hSw; (try dsimp only at hSw); go_simp; first | done | with_reducible rfl)
        try simp only [List.getElem_toArray, List.getElem_cons_succ, List.getElem_cons_zero, Act.put, List.setIfInBounds_toArray, List.set_cons_zero, List.set_cons_succ]
        refine Fx.take (i := 5) (v := ?_) _ rfl (by kernel_rfl) (by kernel_rfl) (by rfl) hSS ?_ ?_
        rotate_left
        · (intro w' hSw; (try dsimp only at hSw); go_simp; first | done | with_reducible rfl)
        try simp only [List.getElem_toArray, List.getElem_cons_succ, List.getElem_cons_zero, Act.put, List.setIfInBounds_toArray, List.set_cons_zero, List.set_cons_succ]
        refine Fx.skip (i := 6) rfl (by kernel_rfl) (by kernel_rfl) (by rfl) ?_
        try simp only [List.getElem_toArray, List.getElem_cons_succ, List.getElem_cons_zero, Act.put, List.setIfInBounds_toArray, List.set_cons_zero, List.set_cons_succ]
        refine Fx.skip (i := 7) rfl (by kernel_rfl) (by kernel_rfl) (by rfl) ?_
        try simp only [List.getElem_toArray, List.getElem_cons_succ, List.getElem_cons_zero, Act.put, List.setIfInBounds_toArray, List.set_cons_zero, List.set_cons_succ]
        refine Fx.skip (i := 8) rfl (by kernel_rfl) (by kernel_rfl) (by rfl) ?_
        try simp only [List.getElem_toArray, List.getElem_cons_succ, List.getElem_cons_zero, Act.put, List.setIfInBounds_toArray, List.set_cons_zero, List.set_cons_succ]
        refine Fx.skip (i := 9) rfl (by kernel_rfl) (by kernel_rfl) (by rfl) ?_
        try simp only [List.getElem_toArray, List.getElem_cons_succ, List.getElem_cons_zero, Act.put, List.setIfInBounds_toArray, List.set_cons_zero, List.set_cons_succ]
        refine Fx.skip (i := 10) rfl (by kernel_rfl) (by kernel_rfl) (by rfl) ?_
        try simp only [List.getElem_toArray, List.getElem_cons_succ, List.getElem_cons_zero, Act.put, List.setIfInBounds_toArray, List.set_cons_zero, List.set_cons_succ]
        refine Fx.skip (i := 11) rfl (by kernel_rfl) (by kernel_rfl) (by rfl) ?_
        try simp only [List.getElem_toArray, List.getElem_cons_succ, List.getElem_cons_zero, Act.put, List.setIfInBounds_toArray, List.set_cons_zero, List.set_cons_succ]
        refine Fx.skip (i := 12) rfl (by kernel_rfl) (by kernel_rfl) (by rfl) ?_
        try simp only [List.getElem_toArray, List.getElem_cons_succ, List.getElem_cons_zero, Act.put, List.setIfInBounds_toArray, List.set_cons_zero, List.set_cons_succ]
        refine Fx.take (i := 13) (v := ?_) _ rfl (by kernel_rfl) (by kernel_rfl) (by rfl) hSS ?_ ?_
        rotate_left
        · (intro w' hSw; (try dsimp only at hSw); go_simp; first | done | with_reducible rfl)
        try simp only [List.getElem_toArray, List.getElem_cons_succ, List.getElem_cons_zero, Act.put, List.setIfInBounds_toArray, List.set_cons_zero, List.set_cons_succ]
        refine Fx.done 0 (by kernel_rfl) (by kernel_rfl) (fun wq hC => ?_)
        have HMQ := Lib.hid (HMW.out.trans0 hC)
        have HOQ := Lib.hid (own_mod HO.out hC (by simp))
        clear hC hSS c0 c1 t0 t1 t2 hge hge' HT HT2 hgo hd1 hd2
        obtain ⟨hmq, c0, c1, t0, t1, t2, hcb⟩ := HF.out wq HMQ.out
        clear hcb
        clear hmw
        generalize hys : rowsI (l.take i) = ys at *
        have H3A := Lib.hid (it_three (Blk.new wq #[.int .i64 x1, .int .i64 x2, .int .i64 x3] 127))
        have HGEA := Lib.hid (own_ge HOQ.out)
        have hszA := HMQ.out.size
        go_wp2_with (at_builtin; refine hold ?_)
        refine Lib.hid ?_
        refine wpList_append_own _ rfl _ _ 73 rfl (w.heap.size + 3) 127 i0 _ 3 24 Try.underlying73 hi0 hz0 hz1 hz2 rfl (by decide) _ i _ rfl (HOQ.out.alloc _) ⟨wq.heap.size, 0, none⟩ 1 1 [.int .i64 x1, .int .i64 x2, .int .i64 x3] rfl rfl H3A.out (by simp [Value.oneCell']) (by unfold maxLen; omega) (by omega) (by have := HWZ.out; rw [World.size_alloc]; omega) ?_
        intro vA wA hownA hgrowA hnil
        clear hnil
        obtain ⟨gaA, gcA, rfl⟩ := Rw.own_slice hownA
        have HOA := Lib.hid hownA
        have HMA := Lib.hid ((HMQ.out.alloc (.cells #[.int .i64 x1, .int .i64 x2, .int .i64 x3] 127)).grown hgrowA (fun j hj => .inr (by have := HGEA.out j hj; have := HWZ.out; omega)))
        clear hownA hgrowA
        have HYS := Lib.hid hys
        have HMA0 := Lib.hid (HF.out wA HMA.out)
        clear hys c0 c1 t0 t1 t2 hmq
        go_wp2_with fail
        go_loopw [10, 11] (fun vl vi wr => ∃ (j : Nat) (ga : Option Addr) (gc : Nat), i ≤ j ∧ j ≤ l.length ∧ vl = .slice ga (j + 1) gc ∧ vi = .int .i64 (j : Int) ∧ Mod W wr [] ∧ wr.ownsRow (w.heap.size + 3) 127 3 (.slice ga (j + 1) gc) (j + 1) (ys ++ itC (x1, x2, x3) ++ rowsI ((l.take j).drop i))) (fun _ vi _ => l.length + 1 - (intOf vi).toNat)
        case atStart => exact ⟨i, gaA, gcA, Nat.le_refl _, hi, by go_num, rfl, HMA.out, by
          rw [show (l.take i).drop i = [] from List.drop_eq_nil_of_le (by rw [List.length_take]; omega), show rowsI [] = [] from rfl, List.append_nil]; exact HOA.out⟩
        case round =>
          obtain ⟨j, gb, gd, hij, hjl, rfl, rfl, hm2, hown2⟩ := hrel
          have HMZ := Lib.hid hm2
          have HOZ := Lib.hid hown2
          obtain ⟨hmz, c0, c1, t0, t1, t2, hcb⟩ := HF.out wr hm2
          have HCB := Lib.hid hcb
          have hj5 : (j : Int) ≤ l.length := by omega
          clear hm2 hown2 hcb
          rcases Nat.lt_or_ge j l.length with hlt | hge
          · have hlt' : (j : Int) < l.length := by omega
            obtain ⟨g, off, cap, hv, hg, d0, d1, d2⟩ := HR.out.cells j hlt
            injection hv with q1 q2 q3
            have HRS : Hid (rowsI ((l.take (j + 1)).drop i) = rowsI ((l.take j).drop i) ++ itC l[j]) := Lib.hid (by
              rw [List.take_succ_eq_append_getElem hlt, List.drop_append_of_le_length (by rw [List.length_take]; omega), rowsI_append]; simp [rowsI])
            have e0 := keepC hmz d0
            have e1 := keepC hmz d1
            have e2 := keepC hmz d2
            clear d0 d1 d2 q2
            generalize l[j] = y at *
            obtain ⟨y1, y2, y3⟩ := y
            simp only at e0 e1 e2
            first | subst q1 q3 | (injection q1 with q1; injection q1 with qa qb qc; subst qa qb q3)
            generalize hzs : ys ++ itC (x1, x2, x3) ++ rowsI ((l.take j).drop i) = zs at *
            have H3B := Lib.hid (it_three (Blk.new wr #[.int .i64 y1, .int .i64 y2, .int .i64 y3] 127))
            have HGEB := Lib.hid (own_ge HOZ.out)
            have hszB := HMZ.out.size
            go_wp2_with (at_builtin; refine hold ?_)
            refine Lib.hid ?_
            refine wpList_append_own _ rfl _ _ 73 rfl (w.heap.size + 3) 127 i0 _ 3 24 Try.underlying73 hi0 hz0 hz1 hz2 rfl (by decide) _ (j + 1) _ rfl (HOZ.out.alloc _) ⟨wr.heap.size, 0, none⟩ 1 1 [.int .i64 y1, .int .i64 y2, .int .i64 y3] rfl rfl H3B.out (by simp [Value.oneCell']) (by unfold maxLen; omega) (by omega) (by have := HWZ.out; rw [World.size_alloc]; omega) ?_
            intro vB wB hownB hgrowB hnil
            clear hnil
            obtain ⟨gaB, gcB, rfl⟩ := Rw.own_slice hownB
            have HOB := Lib.hid hownB
            have HMB := Lib.hid ((HMZ.out.alloc (.cells #[.int .i64 y1, .int .i64 y2, .int .i64 y3] 127)).grown hgrowB (fun j hj => .inr (by have := HGEB.out j hj; have := HWZ.out; omega)))
            clear hownB hgrowB
            go_wp2_with fail
            go_roundw
            case rel =>
              refine ⟨j + 1, gaB, gcB, by omega, by omega, by go_num, by go_num, HMB.out, ?_⟩
              rw [HRS.out, ← List.append_assoc, hzs]; exact HOB.out
            case measure => simp [intOf]; omega
          · have hge' : (l.length : Int) ≤ j := by omega
            have hje : j = l.length := by omega
            have HFIN : Hid (∀ w4, RtC wr (w.heap.size + 1) (.slice gb (j + 1) gd) (.int .i64 x2) 1 w4 → Mod w w4 [] ∧ RfAt w4 (.slice gb (j + 1) gd) (insI l (x1, x2, x3))) := Lib.hid (fun w4 hC => by
              have h1 := HOZ.out
              refine ⟨hmz.trans hC.1 (fun r hr => .inr (by simp at hr; omega)), ?_⟩
              have h3 : RoAt w4 (w.heap.size + 3) (.slice gb (j + 1) gd) (insI l (x1, x2, x3)) := by
                unfold RoAt
                rw [show (insI l (x1, x2, x3)).length = j + 1 by rw [HIN.out]; simp; omega, show rowsI (insI l (x1, x2, x3)) = ys ++ itC (x1, x2, x3) ++ rowsI ((l.take j).drop i) by
                  rw [HIN.out, rowsI_append, rowsI_append, HYS.out, hje, List.take_length]; simp [rowsI]]
                exact own_mod h1 hC.1 (fun j hj => by have := own_ge h1 j hj; simp; omega)
              exact h3.rf)
            have hAB : w.heap.size ≠ w.heap.size + 1 := by omega
            have hAC : w.heap.size + 2 ≠ w.heap.size + 1 := by omega
            clear hje
            go_wp2_with fail
            refine Fx.wp_region_f [7] (RtC wr (w.heap.size + 1) (.slice gb (j + 1) gd) (.int .i64 x2)) (by kernel_rfl) (by decide) (RtC.start HCB.out) ?_
            have hSS : ∀ (m' : Nat) w', RtC wr (w.heap.size + 1) (.slice gb (j + 1) gd) (.int .i64 x2) m' w' → _ := fun m' w' h => (⟨h.keep c0 hAB, h.keep c1 hAB, h.keep t1 hAC⟩ : _ ∧ _ ∧ _)
            have hP0 : ∀ w', RtC wr (w.heap.size + 1) (.slice gb (j + 1) gd) (.int .i64 x2) 0 w' → _ := fun w' h => h.store
            refine Fx.take (i := 0) (v := ?_) _ rfl (by kernel_rfl) (by kernel_rfl) (by rfl) hSS ?_ ?_
            rotate_left
            · (intro w' hSw; (try dsimp only at hSw); go_simp; first | done | with_reducible rfl)
            try simp only [List.getElem_toArray, List.getElem_cons_succ, List.getElem_cons_zero, Act.put, List.setIfInBounds_toArray, List.set_cons_zero, List.set_cons_succ]
            refine Fx.take (i := 1) (v := ?_) _ rfl (by kernel_rfl) (by kernel_rfl) (by rfl) hSS ?_ ?_
            rotate_left
            · (intro w' hSw; (try dsimp only at hSw); go_simp; first | done | with_reducible rfl)
            try simp only [List.getElem_toArray, List.getElem_cons_succ, List.getElem_cons_zero, Act.put, List.setIfInBounds_toArray, List.set_cons_zero, List.set_cons_succ]
            refine Fx.take (i := 2) (v := ?_) _ rfl (by kernel_rfl) (by kernel_rfl) (by rfl) hSS ?_ ?_
            rotate_left
            · (intro w' hSw; (try dsimp only at hSw); go_simp; first | done | with_reducible rfl)
            try simp only [List.getElem_toArray, List.getElem_cons_succ, List.getElem_cons_zero, Act.put, List.setIfInBounds_toArray, List.set_cons_zero, List.set_cons_succ]
            refine Fx.take (i := 3) (v := ?_) _ rfl (by kernel_rfl) (by kernel_rfl) (by rfl) hSS ?_ ?_
            rotate_left
            · (intro w' hSw; (try dsimp only at hSw); go_simp; first | done | with_reducible rfl)
            try simp only [List.getElem_toArray, List.getElem_cons_succ, List.getElem_cons_zero, Act.put, List.setIfInBounds_toArray, List.set_cons_zero, List.set_cons_succ]
            refine Fx.take (i := 4) (v := ?_) _ rfl (by kernel_rfl) (by kernel_rfl) (by rfl) hSS ?_ ?_
            rotate_left
            · (intro w' hSw; (try dsimp only at hSw); go_simp; first | done | with_reducible rfl)
            try simp only [List.getElem_toArray, List.getElem_cons_succ, List.getElem_cons_zero, Act.put, List.setIfInBounds_toArray, List.set_cons_zero, List.set_cons_succ]
            refine Fx.take (i := 5) (v := ?_) _ rfl (by kernel_rfl) (by kernel_rfl) (by rfl) hSS ?_ ?_
            rotate_left
            · (intro w' hSw; (try dsimp only at hSw); go_simp; first | done | with_reducible rfl)
            try simp only [List.getElem_toArray, List.getElem_cons_succ, List.getElem_cons_zero, Act.put, List.setIfInBounds_toArray, List.set_cons_zero, List.set_cons_succ]
            refine Fx.take (i := 6) (v := ?_) _ rfl (by kernel_rfl) (by kernel_rfl) (by rfl) hSS ?_ ?_
            rotate_left
            · (intro w' hSw; (try dsimp only at hSw); go_simp; first | done | with_reducible rfl)
            try simp only [List.getElem_toArray, List.getElem_cons_succ, List.getElem_cons_zero, Act.put, List.setIfInBounds_toArray, List.set_cons_zero, List.set_cons_succ]
            refine Fx.put (i := 7) 0 ?_ rfl (by kernel_rfl) (by kernel_rfl) (by rfl) (by kernel_rfl) (by kernel_rfl) ?_ ?_ ?_
            rotate_left
            · (intro w' hC; obtain hSw := hP0 _ hC; (try dsimp only at hSw); go_simp; first | done | with_reducible rfl)
            · (exact fun w' h => h.put)
            try simp only [List.getElem_toArray, List.getElem_cons_succ, List.getElem_cons_zero, Act.put, List.setIfInBounds_toArray, List.set_cons_zero, List.set_cons_succ]
            refine Fx.take (i := 8) (v := ?_) _ rfl (by kernel_rfl) (by kernel_rfl) (by rfl) hSS ?_ ?_
            rotate_left
            · (intro w' hSw; (try dsimp only at hSw); go_simp; first | done | with_reducible rfl)
            try simp only [List.getElem_toArray, List.getElem_cons_succ, List.getElem_cons_zero, Act.put, List.setIfInBounds_toArray, List.set_cons_zero, List.set_cons_succ]
            refine Fx.take (i := 9) (v := ?_) _ rfl (by kernel_rfl) (by kernel_rfl) (by rfl) hSS ?_ ?_
            rotate_left
            · (intro w' hSw; (try dsimp only at hSw); go_simp; first | done | with_reducible rfl)
            try simp only [List.getElem_toArray, List.getElem_cons_succ, List.getElem_cons_zero, Act.put, List.setIfInBounds_toArray, List.set_cons_zero, List.set_cons_succ]
            refine Fx.done 1 (by kernel_rfl) (by kernel_rfl) (fun w4 hC => ?_)
            have HC4 := Lib.hid hC.2
            have f0 := HC4.out.cell 0
            have f1 := HC4.out.cell 1
            have f2 := HC4.out.lt
            have HFF := Lib.hid (HFL.out w4 _ _ _ (HFIN.out w4 hC))
            clear hC hSS hP0 HFIN
            go_wp2_with fail
            refine bodyPost_ret (v := .tuple #[.agg #[.slice gb (j + 1) gd, .int .i64 x2], .int .i64 x2, .int .i64 0]) (by simp [results, Try.results62, go_sem, f0, f1, f2]) rfl HFF.out
end Go.Proofs.Ytceocpohdckkoaa.Ag
