/- Books: Rows, the reference's Same. -/
import Derived.Test.YtceocpohdckkoaaBxM
namespace Go.Proofs.Ytceocpohdckkoaa.Bx
open Go.RowKit Mem Bits
set_option linter.unusedSimpArgs false
set_option linter.unusedVariables false
set_option maxRecDepth 100000

theorem Fresh.q {D : Nat} {A : World} {u : Value} {xs : List Int} (h : Fresh D A u xs) : IntsQ 0 A u xs := by
  obtain ⟨b, cap, h1, _, h2, h3, h4⟩ := h.cell
  exact .inr ⟨b, 0, cap, h1, h2, .inr h3, fun i hi => by rw [Nat.zero_add]; exact h4 i hi⟩
theorem all2_takeS {R : Value → List Int → Prop} {us : List Value} {rows : List (List Int)} (h : All2 R us rows) {i : Nat} (h1 : i < us.length) (h2 : i < rows.length) : us.take (i + 1) = us.take i ++ [us[i]] ∧ rows.take (i + 1) = rows.take i ++ [rows[i]] :=
  ⟨List.take_succ_eq_append_getElem h1, List.take_succ_eq_append_getElem h2⟩

set_option maxHeartbeats 4000000 in
theorem rows_calls {w : World} {D : Nat} (v : Value) (outs : List (List Int)) (h : OutAt D w v outs) (hn : outs.length ≤ 1000) :
    Calls Try.prog 33 #[v] w fun e w' => ∃ v', e = .returned v' ∧ Mod w w' [] ∧ RrAt 0 w' v' outs := by
  obtain ⟨us, ho, hr⟩ := h
  have hl := all2_len hr
  obtain ⟨i0, hi0, hz0, hz1, hz2⟩ := info_parts info_rr
  obtain ⟨va, vc, hva⟩ := Rw.own_slice ho
  subst hva
  have HO := Lib.hid ho
  have HR := Lib.hid hr
  have HL := Lib.hid hl
  obtain ⟨n, hn'⟩ : ∃ n, us.length = n := ⟨_, rfl⟩
  have HN := Lib.hid hn'
  rw [hn'] at ho ⊢
  have hnn : (n : Int) ≤ 1000 := by omega
  clear ho hr hl hn'
  go_enter Try.func33, Try.ntmps33
  go_wp2_with fail
  go_loopw [3, 4] (fun vo vi wr => ∃ (i : Nat) (oa : Option Addr) (oc : Nat), vo = .slice oa i oc ∧ vi = .int .i64 (i : Int) ∧ i ≤ n ∧ Mod w wr [] ∧ wr.ownsRow w.heap.size tR 1 (.slice oa i oc) i (us.take i)) (fun _ vi _ => n + 1 - (intOf vi).toNat)
  case atStart => exact ⟨0, none, 0, rfl, rfl, Nat.zero_le _, Mod.refl _ _, World.ownsRow_nil _ _ _ _⟩
  case round =>
    obtain ⟨i, oa, oc, rfl, rfl, hi, hm, hown⟩ := hrel
    have HM := Lib.hid hm
    have HW := Lib.hid hown
    clear hm hown
    by_cases hlt : i < n
    · have hlt' : (i : Int) < n := by omega
      have hiu : i < us.length := by have := HN.out; omega
      rcases own_cell HO.out with ⟨_, h0, _⟩ | ⟨g, cap, hv, _, hnc, _, _, hcl⟩
      · omega
      · injection hv with e1 _ e3
        subst e1 e3
        have hnc' : (n : Int) ≤ vc := by have := HN.out; omega
        have hc := (Kept.mod HM.out).cell (hcl i hiu)
        have hfr := all2_get HR.out i hiu (by have := HL.out; omega)
        obtain ⟨ub, uc, hu, _⟩ := hfr.cell
        rw [hu] at hc
        have HTK := Lib.hid (show us.take (i + 1) = us.take i ++ [us[i]'hiu] from List.take_succ_eq_append_getElem hiu)
        rw [hu] at HTK
        clear hcl hu hfr
        generalize ((outs[i]'(by have := HL.out; have := HN.out; omega)).length) = ul at *
        have HN2 := Lib.hid (Blk.new wr #[slV ub ul uc] 26)
        have HO2 := Lib.hid (HW.out.alloc (.cells #[slV ub ul uc] 26))
        have hsw := HM.out.size
        go_wp2_with (at_builtin; refine wpList_append_own _ rfl _ _ 55 rfl w.heap.size 26 i0 _ 1 24 Try.underlying55 hi0 hz0 hz1 hz2 rfl (by decide) _ _ _ rfl HO2.out ⟨wr.heap.size, 0, none⟩ 1 1 [slV ub ul uc] rfl rfl (new_one HN2.out) (by simp [Value.oneCell']) (by unfold maxLen; omega) (by omega) (by simp; omega) ?_; intro v' w3 hown' hgrow hnil; clear hnil; have HO3 := Lib.hid hown'; have HG3 := Lib.hid hgrow; clear hown' hgrow; obtain ⟨a3, c3, hv3⟩ := Rw.own_slice HO3.out; subst hv3)
        go_roundw
        case rel => exact ⟨i + 1, a3, c3, rfl, by go_num, by omega, (HM.out.alloc _).grown HG3.out (fun k hk => .inr (own_ge HO2.out k hk)), by rw [HTK.out]; exact HO3.out⟩
        case measure => simp [intOf]; omega
    · obtain rfl : i = n := by omega
      have hii : (i : Int) ≤ i := by omega
      go_wp2_with fail
      go_ret
      refine ⟨_, rfl, HM.out, RrAt.own (base := w.heap.size) (us := us) ?_ (all2_mono (fun _ _ h => (h.kept (Kept.mod HM.out)).q) HR.out)⟩
      have h := HW.out
      rw [List.take_of_length_le (by have := HN.out; omega)] at h
      rw [HN.out]
      exact h

theorem gi_ext {a b : List Int} (hl : a.length = b.length) (h : ∀ k, k < a.length → gi a k = gi b k) : a = b := by
  apply List.ext_getElem hl
  intro i h1 h2
  rw [gi_eq h1, gi_eq h2]
  exact h i h1
set_option maxHeartbeats 8000000 in
theorem rsame_calls {N1 N2 : Nat} {w : World} (v1 v2 : Value) (r1 r2 : List (List Int)) (h1 : RrAt N1 w v1 r1) (h2 : RrAt N2 w v2 r2) (hn1 : r1.length ≤ 1000) (hn2 : r2.length ≤ 1000)
    (hb1 : ∀ r ∈ r1, r.length ≤ 1000) (hb2 : ∀ r ∈ r2, r.length ≤ 1000) :
    Calls Try.prog 32 #[v1, v2] w fun e w' => e = .returned (.bool (decide (r1 = r2))) ∧ Mod w w' [] := by
  obtain ⟨a1, c1, rfl, hc1⟩ := h1.slice
  obtain ⟨a2, c2, rfl, hc2⟩ := h2.slice
  have H1 := Lib.hid h1
  have H2 := Lib.hid h2
  have HB1 := Lib.hid hb1
  have HB2 := Lib.hid hb2
  have hn1' : (r1.length : Int) ≤ 1000 := by omega
  have hn2' : (r2.length : Int) ≤ 1000 := by omega
  have hc1' : (r1.length : Int) ≤ c1 := by omega
  have hc2' : (r2.length : Int) ≤ c2 := by omega
  clear h1 h2 hb1 hb2
  by_cases hlen : r1.length = r2.length
  · have HLEN := Lib.hid hlen
    rw [← hlen] at hn2' hc2' ⊢
    generalize hnn : r1.length = n at *
    have HN := Lib.hid hnn
    clear hlen hnn hn2 hc2
    go_enter Try.func32, Try.ntmps32
    go_wp2_with fail
    go_loopw [5] (fun vi wr => ∃ i : Nat, vi = .int .i64 (i : Int) ∧ i ≤ n ∧ Mod w wr [] ∧ Hid (r1.take i = r2.take i)) (fun vi _ => n + 1 - (intOf vi).toNat)
    case atStart => exact ⟨0, rfl, Nat.zero_le _, Mod.refl _ _, Lib.hid rfl⟩
    case round =>
      obtain ⟨i, rfl, hi, hm, HT⟩ := hrel
      obtain ⟨wo, rfl⟩ : ∃ wo, wo = wr := ⟨_, rfl⟩
      have HM := Lib.hid hm
      clear hm
      by_cases hlt : i < n
      · have hlt' : (i : Int) < n := by omega
        have hi1 : i < r1.length := by have := HN.out; omega
        have hi2 : i < r2.length := by have := HN.out; have := HLEN.out; omega
        obtain ⟨b1, o1, p1, u1, e1, d1, q1⟩ := (H1.out.mod HM.out).get hi1
        obtain ⟨b2, o2, p2, u2, e2, d2, q2⟩ := (H2.out.mod HM.out).get hi2
        injection e1 with e1 e1n e1'
        injection e2 with e2 e2n e2'
        clear e1n e2n
        subst e1 e1' e2 e2'
        have hb1 := HB1.out _ (List.getElem_mem hi1)
        have hb2 := HB2.out _ (List.getElem_mem hi2)
        have HS1 := Lib.hid (List.take_succ_eq_append_getElem hi1)
        have HS2 := Lib.hid (List.take_succ_eq_append_getElem hi2)
        have HNE : Hid (r1[i] ≠ r2[i] → false = decide (r1 = r2)) := Lib.hid (fun h => by
          rw [decide_eq_false]
          intro e
          subst e
          exact h rfl)
        generalize r1[i]'hi1 = x1 at *
        generalize r2[i]'hi2 = x2 at *
        obtain ⟨ua1, uc1, hu1⟩ := q1.slice
        obtain ⟨ua2, uc2, hu2⟩ := q2.slice
        subst hu1 hu2
        have Q1 := Lib.hid q1
        have Q2 := Lib.hid q2
        have hx1 : (x1.length : Int) ≤ 1000 := by omega
        have hx2 : (x2.length : Int) ≤ 1000 := by omega
        have D1 := Lib.hid d1
        have D2 := Lib.hid d2
        clear q1 q2
        by_cases hxl : x1.length = x2.length
        · have HXL := Lib.hid hxl
          have hxne : ((x1.length : Int) != (x2.length : Int)) = false := by rw [hxl]; simp
          go_wp2_with fail
          refine Fx.wp_region_f [] (fun _ w' => w' = wo.drew) (by kernel_rfl) (by decide) rfl ?_
          have hSS : ∀ (m : Nat) w', w' = wo.drew → w'.cell? ⟨b1, o1 + i, none⟩ = some (.slice ua1 x1.length uc1) ∧ w'.cell? ⟨b2, o2 + i, none⟩ = some (.slice ua2 x2.length uc2) := fun m w' h => by rw [h]; exact ⟨D1.out, D2.out⟩
          refine Fx.take (i := 0) (v := ?_) _ rfl (by kernel_rfl) (by kernel_rfl) (by rfl) hSS ?_ ?_
          rotate_left
          · (intro w' hSw; (try dsimp only at hSw); go_simp; first | done | with_reducible rfl)
          try simp only [List.getElem_toArray, List.getElem_cons_succ, List.getElem_cons_zero, Act.put, List.setIfInBounds_toArray, List.set_cons_zero, List.set_cons_succ]
          refine Fx.take (i := 1) (v := ?_) _ rfl (by kernel_rfl) (by kernel_rfl) (by rfl) hSS ?_ ?_
          rotate_left
          · (intro w' hSw; (try dsimp only at hSw); go_simp; first | done | with_reducible rfl)
          try simp only [List.getElem_toArray, List.getElem_cons_succ, List.getElem_cons_zero, Act.put, List.setIfInBounds_toArray, List.set_cons_zero, List.set_cons_succ]
          refine Fx.take (i := 2) (v := ?_) _ rfl (by kernel_rfl) (by kernel_rfl) (by rfl) hSS ?_ ?_
          rotate_left
          · (intro w' hSw; (try dsimp only at hSw); go_simp; first | done | with_reducible rfl)
          try simp only [List.getElem_toArray, List.getElem_cons_succ, List.getElem_cons_zero, Act.put, List.setIfInBounds_toArray, List.set_cons_zero, List.set_cons_succ]
          refine Fx.take (i := 3) (v := ?_) _ rfl (by kernel_rfl) (by kernel_rfl) (by rfl) hSS ?_ ?_
          rotate_left
          · (intro w' hSw; (try dsimp only at hSw); go_simp; first | done | with_reducible rfl)
          try simp only [List.getElem_toArray, List.getElem_cons_succ, List.getElem_cons_zero, Act.put, List.setIfInBounds_toArray, List.set_cons_zero, List.set_cons_succ]
          refine Fx.take (i := 4) (v := ?_) _ rfl (by kernel_rfl) (by kernel_rfl) (by rfl) hSS ?_ ?_
          rotate_left
          · (intro w' hSw; (try dsimp only at hSw); go_simp; first | done | with_reducible rfl)
          try simp only [List.getElem_toArray, List.getElem_cons_succ, List.getElem_cons_zero, Act.put, List.setIfInBounds_toArray, List.set_cons_zero, List.set_cons_succ]
          refine Fx.take (i := 5) (v := ?_) _ rfl (by kernel_rfl) (by kernel_rfl) (by rfl) hSS ?_ ?_
          rotate_left
          · (intro w' hSw; (try dsimp only at hSw); go_simp; first | done | with_reducible rfl)
          try simp only [List.getElem_toArray, List.getElem_cons_succ, List.getElem_cons_zero, Act.put, List.setIfInBounds_toArray, List.set_cons_zero, List.set_cons_succ]
          refine Fx.take (i := 6) (v := ?_) _ rfl (by kernel_rfl) (by kernel_rfl) (by rfl) hSS ?_ ?_
          rotate_left
          · (intro w' hSw; (try dsimp only at hSw); go_simp; first | done | with_reducible rfl)
          try simp only [List.getElem_toArray, List.getElem_cons_succ, List.getElem_cons_zero, Act.put, List.setIfInBounds_toArray, List.set_cons_zero, List.set_cons_succ]
          refine Fx.take (i := 7) (v := ?_) _ rfl (by kernel_rfl) (by kernel_rfl) (by rfl) hSS ?_ ?_
          rotate_left
          · (intro w' hSw; (try dsimp only at hSw); go_simp; first | done | with_reducible rfl)
          try simp only [List.getElem_toArray, List.getElem_cons_succ, List.getElem_cons_zero, Act.put, List.setIfInBounds_toArray, List.set_cons_zero, List.set_cons_succ]
          refine Fx.take (i := 8) (v := ?_) _ rfl (by kernel_rfl) (by kernel_rfl) (by rfl) hSS ?_ ?_
          rotate_left
          · (intro w' hSw; (try dsimp only at hSw); go_simp; first | done | with_reducible rfl)
          try simp only [List.getElem_toArray, List.getElem_cons_succ, List.getElem_cons_zero, Act.put, List.setIfInBounds_toArray, List.set_cons_zero, List.set_cons_succ]
          refine Fx.take (i := 9) (v := ?_) _ rfl (by kernel_rfl) (by kernel_rfl) (by rfl) hSS ?_ ?_
          rotate_left
          · (intro w' hSw; (try dsimp only at hSw); go_simp; first | done | with_reducible rfl)
          try simp only [List.getElem_toArray, List.getElem_cons_succ, List.getElem_cons_zero, Act.put, List.setIfInBounds_toArray, List.set_cons_zero, List.set_cons_succ]
          refine Fx.take (i := 10) (v := ?_) _ rfl (by kernel_rfl) (by kernel_rfl) (by rfl) hSS ?_ ?_
          rotate_left
          · (intro w' hSw; (try dsimp only at hSw); go_simp; first | done | with_reducible rfl)
          try simp only [List.getElem_toArray, List.getElem_cons_succ, List.getElem_cons_zero, Act.put, List.setIfInBounds_toArray, List.set_cons_zero, List.set_cons_succ]
          refine Fx.done 0 (by kernel_rfl) (by kernel_rfl) (fun w5 hC5 => ?_)
          have HM5 := Lib.hid (show Mod wo w5 [] by rw [hC5]; exact (Mod.refl wo []).drew)
          clear hC5 hSS
          go_wp2_with fail
          clear d1 d2
          go_loopw [6] (fun vk wr => ∃ k : Nat, vk = .int .i64 (k : Int) ∧ k ≤ x1.length ∧ Mod wo wr [] ∧ Hid (∀ j, j < k → gi x1 j = gi x2 j)) (fun vk _ => x1.length + 1 - (intOf vk).toNat)
          case atStart => exact ⟨0, rfl, Nat.zero_le _, HM5.out, Lib.hid (fun j h => by omega)⟩
          case round =>
            obtain ⟨k, rfl, hk, hmk, HJ⟩ := hrel
            have HMK := Lib.hid hmk
            have d1 := (Kept.mod hmk).cell D1.out
            have d2 := (Kept.mod hmk).cell D2.out
            clear hmk HM5
            by_cases hkl : k < x1.length
            · have hkl' : (k : Int) < x1.length := by omega
              have hkl2 : (k : Int) < x2.length := by omega
              have hk2 : k < x2.length := by omega
              obtain ⟨g1, f1, m1, ee1, hm1, _, hcl1⟩ := (Q1.out.kept (Kept.mod HMK.out)).resolve_left (fun h => by rw [h.1] at hkl; simp at hkl)
              obtain ⟨g2, f2, m2, ee2, hm2, _, hcl2⟩ := (Q2.out.kept (Kept.mod HMK.out)).resolve_left (fun h => by rw [h.1] at hk2; simp at hk2)
              injection ee1 with ee1 ee1n ee1'
              injection ee2 with ee2 ee2n ee2'
              clear ee1n ee2n
              subst ee1 ee1' ee2 ee2'
              have k1 := hcl1 k hkl
              have k2 := hcl2 k hk2
              have hm1' : (x1.length : Int) ≤ uc1 := by omega
              have hm2' : (x2.length : Int) ≤ uc2 := by omega
              have HE : Hid (gi x1 k ≠ gi x2 k → x1 ≠ x2) := Lib.hid (fun h e => h (by rw [e]))
              have HY : Hid (gi x1 k = gi x2 k → ∀ j, j < k + 1 → gi x1 j = gi x2 j) := Lib.hid (fun h j hj => by
                by_cases e : j = k
                · subst e; exact h
                · exact HJ.out j (by omega))
              have HDR := Lib.hid ((HM.out.trans0 HMK.out).drew)
              have HDRo := Lib.hid (HMK.out.drew)
              clear hcl1 hcl2
              by_cases hg : gi x1 k = gi x2 k
              · have HG := Lib.hid (HY.out hg)
                have hgb : (gi x1 k != gi x2 k) = false := by simpa using hg
                have hg' := Lib.hid hg
                clear HY HE hg
                generalize gi x1 k = y1 at *
                generalize gi x2 k = y2 at *
                go_wp2_with fail
                refine Fx.wp_region_f [] (fun _ w' => w' = wr.drew) (by kernel_rfl) (by decide) rfl ?_
                have hSS : ∀ (m : Nat) w', w' = wr.drew → w'.cell? ⟨b1, o1 + i, none⟩ = some (.slice (some ⟨g1, f1, none⟩) x1.length uc1) ∧ w'.cell? ⟨b2, o2 + i, none⟩ = some (.slice (some ⟨g2, f2, none⟩) x2.length uc2) ∧ w'.cell? ⟨g1, f1 + k, none⟩ = some (.int .i64 y1) ∧ w'.cell? ⟨g2, f2 + k, none⟩ = some (.int .i64 y2) := fun m w' h => by rw [h]; exact ⟨d1, d2, k1, k2⟩
                refine Fx.take (i := 0) (v := ?_) _ rfl (by kernel_rfl) (by kernel_rfl) (by rfl) hSS ?_ ?_
                rotate_left
                · (intro w' hSw; (try dsimp only at hSw); go_simp; first | done | with_reducible rfl)
                try simp only [List.getElem_toArray, List.getElem_cons_succ, List.getElem_cons_zero, Act.put, List.setIfInBounds_toArray, List.set_cons_zero, List.set_cons_succ]
                refine Fx.take (i := 1) (v := ?_) _ rfl (by kernel_rfl) (by kernel_rfl) (by rfl) hSS ?_ ?_
                rotate_left
                · (intro w' hSw; (try dsimp only at hSw); go_simp; first | done | with_reducible rfl)
                try simp only [List.getElem_toArray, List.getElem_cons_succ, List.getElem_cons_zero, Act.put, List.setIfInBounds_toArray, List.set_cons_zero, List.set_cons_succ]
                refine Fx.take (i := 2) (v := ?_) _ rfl (by kernel_rfl) (by kernel_rfl) (by rfl) hSS ?_ ?_
                rotate_left
                · (intro w' hSw; (try dsimp only at hSw); go_simp; first | done | with_reducible rfl)
                try simp only [List.getElem_toArray, List.getElem_cons_succ, List.getElem_cons_zero, Act.put, List.setIfInBounds_toArray, List.set_cons_zero, List.set_cons_succ]
                refine Fx.take (i := 3) (v := ?_) _ rfl (by kernel_rfl) (by kernel_rfl) (by rfl) hSS ?_ ?_
                rotate_left
                · (intro w' hSw; (try dsimp only at hSw); go_simp; first | done | with_reducible rfl)
                try simp only [List.getElem_toArray, List.getElem_cons_succ, List.getElem_cons_zero, Act.put, List.setIfInBounds_toArray, List.set_cons_zero, List.set_cons_succ]
                refine Fx.take (i := 4) (v := ?_) _ rfl (by kernel_rfl) (by kernel_rfl) (by rfl) hSS ?_ ?_
                rotate_left
                · (intro w' hSw; (try dsimp only at hSw); go_simp; first | done | with_reducible rfl)
                try simp only [List.getElem_toArray, List.getElem_cons_succ, List.getElem_cons_zero, Act.put, List.setIfInBounds_toArray, List.set_cons_zero, List.set_cons_succ]
                refine Fx.take (i := 5) (v := ?_) _ rfl (by kernel_rfl) (by kernel_rfl) (by rfl) hSS ?_ ?_
                rotate_left
                · (intro w' hSw; (try dsimp only at hSw); go_simp; first | done | with_reducible rfl)
                try simp only [List.getElem_toArray, List.getElem_cons_succ, List.getElem_cons_zero, Act.put, List.setIfInBounds_toArray, List.set_cons_zero, List.set_cons_succ]
                refine Fx.take (i := 6) (v := ?_) _ rfl (by kernel_rfl) (by kernel_rfl) (by rfl) hSS ?_ ?_
                rotate_left
                · (intro w' hSw; (try dsimp only at hSw); go_simp; first | done | with_reducible rfl)
                try simp only [List.getElem_toArray, List.getElem_cons_succ, List.getElem_cons_zero, Act.put, List.setIfInBounds_toArray, List.set_cons_zero, List.set_cons_succ]
                refine Fx.take (i := 7) (v := ?_) _ rfl (by kernel_rfl) (by kernel_rfl) (by rfl) hSS ?_ ?_
                rotate_left
                · (intro w' hSw; (try dsimp only at hSw); go_simp; first | done | with_reducible rfl)
                try simp only [List.getElem_toArray, List.getElem_cons_succ, List.getElem_cons_zero, Act.put, List.setIfInBounds_toArray, List.set_cons_zero, List.set_cons_succ]
                refine Fx.take (i := 8) (v := ?_) _ rfl (by kernel_rfl) (by kernel_rfl) (by rfl) hSS ?_ ?_
                rotate_left
                · (intro w' hSw; (try dsimp only at hSw); go_simp; first | done | with_reducible rfl)
                try simp only [List.getElem_toArray, List.getElem_cons_succ, List.getElem_cons_zero, Act.put, List.setIfInBounds_toArray, List.set_cons_zero, List.set_cons_succ]
                refine Fx.take (i := 9) (v := ?_) _ rfl (by kernel_rfl) (by kernel_rfl) (by rfl) hSS ?_ ?_
                rotate_left
                · (intro w' hSw; (try dsimp only at hSw); go_simp; first | done | with_reducible rfl)
                try simp only [List.getElem_toArray, List.getElem_cons_succ, List.getElem_cons_zero, Act.put, List.setIfInBounds_toArray, List.set_cons_zero, List.set_cons_succ]
                refine Fx.take (i := 10) (v := ?_) _ rfl (by kernel_rfl) (by kernel_rfl) (by rfl) hSS ?_ ?_
                rotate_left
                · (intro w' hSw; (try dsimp only at hSw); go_simp; first | done | with_reducible rfl)
                try simp only [List.getElem_toArray, List.getElem_cons_succ, List.getElem_cons_zero, Act.put, List.setIfInBounds_toArray, List.set_cons_zero, List.set_cons_succ]
                refine Fx.take (i := 11) (v := ?_) _ rfl (by kernel_rfl) (by kernel_rfl) (by rfl) hSS ?_ ?_
                rotate_left
                · (intro w' hSw; (try dsimp only at hSw); go_simp; first | done | with_reducible rfl)
                try simp only [List.getElem_toArray, List.getElem_cons_succ, List.getElem_cons_zero, Act.put, List.setIfInBounds_toArray, List.set_cons_zero, List.set_cons_succ]
                refine Fx.take (i := 12) (v := ?_) _ rfl (by kernel_rfl) (by kernel_rfl) (by rfl) hSS ?_ ?_
                rotate_left
                · (intro w' hSw; (try dsimp only at hSw); go_simp; first | done | with_reducible rfl)
                try simp only [List.getElem_toArray, List.getElem_cons_succ, List.getElem_cons_zero, Act.put, List.setIfInBounds_toArray, List.set_cons_zero, List.set_cons_succ]
                refine Fx.take (i := 13) (v := ?_) _ rfl (by kernel_rfl) (by kernel_rfl) (by rfl) hSS ?_ ?_
                rotate_left
                · (intro w' hSw; (try dsimp only at hSw); go_simp; first | done | with_reducible rfl)
                try simp only [List.getElem_toArray, List.getElem_cons_succ, List.getElem_cons_zero, Act.put, List.setIfInBounds_toArray, List.set_cons_zero, List.set_cons_succ]
                refine Fx.take (i := 14) (v := ?_) _ rfl (by kernel_rfl) (by kernel_rfl) (by rfl) hSS ?_ ?_
                rotate_left
                · (intro w' hSw; (try dsimp only at hSw); go_simp; first | done | with_reducible rfl)
                try simp only [List.getElem_toArray, List.getElem_cons_succ, List.getElem_cons_zero, Act.put, List.setIfInBounds_toArray, List.set_cons_zero, List.set_cons_succ]
                refine Fx.done 0 (by kernel_rfl) (by kernel_rfl) (fun w6 hC6 => ?_)
                subst hC6
                go_wp2_with fail
                go_roundw
                case rel => exact ⟨k + 1, by go_num, by omega, HDRo.out, HG⟩
                case measure => simp [intOf]; omega
              · have hr := Lib.hid (HNE.out (HE.out hg))
                have hgb : (gi x1 k != gi x2 k) = true := by simpa using hg
                clear HY HE
                generalize gi x1 k = y1 at *
                generalize gi x2 k = y2 at *
                go_wp2_with fail
                refine Fx.wp_region_f [] (fun _ w' => w' = wr.drew) (by kernel_rfl) (by decide) rfl ?_
                have hSS : ∀ (m : Nat) w', w' = wr.drew → w'.cell? ⟨b1, o1 + i, none⟩ = some (.slice (some ⟨g1, f1, none⟩) x1.length uc1) ∧ w'.cell? ⟨b2, o2 + i, none⟩ = some (.slice (some ⟨g2, f2, none⟩) x2.length uc2) ∧ w'.cell? ⟨g1, f1 + k, none⟩ = some (.int .i64 y1) ∧ w'.cell? ⟨g2, f2 + k, none⟩ = some (.int .i64 y2) := fun m w' h => by rw [h]; exact ⟨d1, d2, k1, k2⟩
                refine Fx.take (i := 0) (v := ?_) _ rfl (by kernel_rfl) (by kernel_rfl) (by rfl) hSS ?_ ?_
                rotate_left
                · (intro w' hSw; (try dsimp only at hSw); go_simp; first | done | with_reducible rfl)
                try simp only [List.getElem_toArray, List.getElem_cons_succ, List.getElem_cons_zero, Act.put, List.setIfInBounds_toArray, List.set_cons_zero, List.set_cons_succ]
                refine Fx.take (i := 1) (v := ?_) _ rfl (by kernel_rfl) (by kernel_rfl) (by rfl) hSS ?_ ?_
                rotate_left
                · (intro w' hSw; (try dsimp only at hSw); go_simp; first | done | with_reducible rfl)
                try simp only [List.getElem_toArray, List.getElem_cons_succ, List.getElem_cons_zero, Act.put, List.setIfInBounds_toArray, List.set_cons_zero, List.set_cons_succ]
                refine Fx.take (i := 2) (v := ?_) _ rfl (by kernel_rfl) (by kernel_rfl) (by rfl) hSS ?_ ?_
                rotate_left
                · (intro w' hSw; (try dsimp only at hSw); go_simp; first | done | with_reducible rfl)
                try simp only [List.getElem_toArray, List.getElem_cons_succ, List.getElem_cons_zero, Act.put, List.setIfInBounds_toArray, List.set_cons_zero, List.set_cons_succ]
                refine Fx.take (i := 3) (v := ?_) _ rfl (by kernel_rfl) (by kernel_rfl) (by rfl) hSS ?_ ?_
                rotate_left
                · (intro w' hSw; (try dsimp only at hSw); go_simp; first | done | with_reducible rfl)
                try simp only [List.getElem_toArray, List.getElem_cons_succ, List.getElem_cons_zero, Act.put, List.setIfInBounds_toArray, List.set_cons_zero, List.set_cons_succ]
                refine Fx.take (i := 4) (v := ?_) _ rfl (by kernel_rfl) (by kernel_rfl) (by rfl) hSS ?_ ?_
                rotate_left
                · (intro w' hSw; (try dsimp only at hSw); go_simp; first | done | with_reducible rfl)
                try simp only [List.getElem_toArray, List.getElem_cons_succ, List.getElem_cons_zero, Act.put, List.setIfInBounds_toArray, List.set_cons_zero, List.set_cons_succ]
                refine Fx.take (i := 5) (v := ?_) _ rfl (by kernel_rfl) (by kernel_rfl) (by rfl) hSS ?_ ?_
                rotate_left
                · (intro w' hSw; (try dsimp only at hSw); go_simp; first | done | with_reducible rfl)
                try simp only [List.getElem_toArray, List.getElem_cons_succ, List.getElem_cons_zero, Act.put, List.setIfInBounds_toArray, List.set_cons_zero, List.set_cons_succ]
                refine Fx.take (i := 6) (v := ?_) _ rfl (by kernel_rfl) (by kernel_rfl) (by rfl) hSS ?_ ?_
                rotate_left
                · (intro w' hSw; (try dsimp only at hSw); go_simp; first | done | with_reducible rfl)
                try simp only [List.getElem_toArray, List.getElem_cons_succ, List.getElem_cons_zero, Act.put, List.setIfInBounds_toArray, List.set_cons_zero, List.set_cons_succ]
                refine Fx.take (i := 7) (v := ?_) _ rfl (by kernel_rfl) (by kernel_rfl) (by rfl) hSS ?_ ?_
                rotate_left
                · (intro w' hSw; (try dsimp only at hSw); go_simp; first | done | with_reducible rfl)
                try simp only [List.getElem_toArray, List.getElem_cons_succ, List.getElem_cons_zero, Act.put, List.setIfInBounds_toArray, List.set_cons_zero, List.set_cons_succ]
                refine Fx.take (i := 8) (v := ?_) _ rfl (by kernel_rfl) (by kernel_rfl) (by rfl) hSS ?_ ?_
                rotate_left
                · (intro w' hSw; (try dsimp only at hSw); go_simp; first | done | with_reducible rfl)
                try simp only [List.getElem_toArray, List.getElem_cons_succ, List.getElem_cons_zero, Act.put, List.setIfInBounds_toArray, List.set_cons_zero, List.set_cons_succ]
                refine Fx.take (i := 9) (v := ?_) _ rfl (by kernel_rfl) (by kernel_rfl) (by rfl) hSS ?_ ?_
                rotate_left
                · (intro w' hSw; (try dsimp only at hSw); go_simp; first | done | with_reducible rfl)
                try simp only [List.getElem_toArray, List.getElem_cons_succ, List.getElem_cons_zero, Act.put, List.setIfInBounds_toArray, List.set_cons_zero, List.set_cons_succ]
                refine Fx.take (i := 10) (v := ?_) _ rfl (by kernel_rfl) (by kernel_rfl) (by rfl) hSS ?_ ?_
                rotate_left
                · (intro w' hSw; (try dsimp only at hSw); go_simp; first | done | with_reducible rfl)
                try simp only [List.getElem_toArray, List.getElem_cons_succ, List.getElem_cons_zero, Act.put, List.setIfInBounds_toArray, List.set_cons_zero, List.set_cons_succ]
                refine Fx.take (i := 11) (v := ?_) _ rfl (by kernel_rfl) (by kernel_rfl) (by rfl) hSS ?_ ?_
                rotate_left
                · (intro w' hSw; (try dsimp only at hSw); go_simp; first | done | with_reducible rfl)
                try simp only [List.getElem_toArray, List.getElem_cons_succ, List.getElem_cons_zero, Act.put, List.setIfInBounds_toArray, List.set_cons_zero, List.set_cons_succ]
                refine Fx.take (i := 12) (v := ?_) _ rfl (by kernel_rfl) (by kernel_rfl) (by rfl) hSS ?_ ?_
                rotate_left
                · (intro w' hSw; (try dsimp only at hSw); go_simp; first | done | with_reducible rfl)
                try simp only [List.getElem_toArray, List.getElem_cons_succ, List.getElem_cons_zero, Act.put, List.setIfInBounds_toArray, List.set_cons_zero, List.set_cons_succ]
                refine Fx.take (i := 13) (v := ?_) _ rfl (by kernel_rfl) (by kernel_rfl) (by rfl) hSS ?_ ?_
                rotate_left
                · (intro w' hSw; (try dsimp only at hSw); go_simp; first | done | with_reducible rfl)
                try simp only [List.getElem_toArray, List.getElem_cons_succ, List.getElem_cons_zero, Act.put, List.setIfInBounds_toArray, List.set_cons_zero, List.set_cons_succ]
                refine Fx.take (i := 14) (v := ?_) _ rfl (by kernel_rfl) (by kernel_rfl) (by rfl) hSS ?_ ?_
                rotate_left
                · (intro w' hSw; (try dsimp only at hSw); go_simp; first | done | with_reducible rfl)
                try simp only [List.getElem_toArray, List.getElem_cons_succ, List.getElem_cons_zero, Act.put, List.setIfInBounds_toArray, List.set_cons_zero, List.set_cons_succ]
                refine Fx.done 0 (by kernel_rfl) (by kernel_rfl) (fun w6 hC6 => ?_)
                subst hC6
                go_wp2_with fail
                go_ret
                exact ⟨ret_bool hr.out, HDR.out⟩
            · have hge : (x1.length : Int) ≤ k := by omega
              have HX : Hid (x1 = x2) := Lib.hid (gi_ext HXL.out (fun j hj => HJ.out j (by omega)))
              go_wp2_with fail
              go_roundw
              case rel => exact ⟨i + 1, by go_num, by omega, HM.out.trans0 HMK.out, Lib.hid (by rw [HS1.out, HS2.out, HT.out, HX.out])⟩
              case measure => simp [intOf]; omega
        · have hxne : ((x1.length : Int) != (x2.length : Int)) = true := by
            rw [bne_iff_ne]
            omega
          have hr := Lib.hid (HNE.out (fun e => hxl (by rw [e])))
          have HDR := Lib.hid (HM.out.drew)
          go_wp2_with fail
          refine Fx.wp_region_f [] (fun _ w' => w' = wo.drew) (by kernel_rfl) (by decide) rfl ?_
          have hSS : ∀ (m : Nat) w', w' = wo.drew → w'.cell? ⟨b1, o1 + i, none⟩ = some (.slice ua1 x1.length uc1) ∧ w'.cell? ⟨b2, o2 + i, none⟩ = some (.slice ua2 x2.length uc2) := fun m w' h => by rw [h]; exact ⟨D1.out, D2.out⟩
          refine Fx.take (i := 0) (v := ?_) _ rfl (by kernel_rfl) (by kernel_rfl) (by rfl) hSS ?_ ?_
          rotate_left
          · (intro w' hSw; (try dsimp only at hSw); go_simp; first | done | with_reducible rfl)
          try simp only [List.getElem_toArray, List.getElem_cons_succ, List.getElem_cons_zero, Act.put, List.setIfInBounds_toArray, List.set_cons_zero, List.set_cons_succ]
          refine Fx.take (i := 1) (v := ?_) _ rfl (by kernel_rfl) (by kernel_rfl) (by rfl) hSS ?_ ?_
          rotate_left
          · (intro w' hSw; (try dsimp only at hSw); go_simp; first | done | with_reducible rfl)
          try simp only [List.getElem_toArray, List.getElem_cons_succ, List.getElem_cons_zero, Act.put, List.setIfInBounds_toArray, List.set_cons_zero, List.set_cons_succ]
          refine Fx.take (i := 2) (v := ?_) _ rfl (by kernel_rfl) (by kernel_rfl) (by rfl) hSS ?_ ?_
          rotate_left
          · (intro w' hSw; (try dsimp only at hSw); go_simp; first | done | with_reducible rfl)
          try simp only [List.getElem_toArray, List.getElem_cons_succ, List.getElem_cons_zero, Act.put, List.setIfInBounds_toArray, List.set_cons_zero, List.set_cons_succ]
          refine Fx.take (i := 3) (v := ?_) _ rfl (by kernel_rfl) (by kernel_rfl) (by rfl) hSS ?_ ?_
          rotate_left
          · (intro w' hSw; (try dsimp only at hSw); go_simp; first | done | with_reducible rfl)
          try simp only [List.getElem_toArray, List.getElem_cons_succ, List.getElem_cons_zero, Act.put, List.setIfInBounds_toArray, List.set_cons_zero, List.set_cons_succ]
          refine Fx.take (i := 4) (v := ?_) _ rfl (by kernel_rfl) (by kernel_rfl) (by rfl) hSS ?_ ?_
          rotate_left
          · (intro w' hSw; (try dsimp only at hSw); go_simp; first | done | with_reducible rfl)
          try simp only [List.getElem_toArray, List.getElem_cons_succ, List.getElem_cons_zero, Act.put, List.setIfInBounds_toArray, List.set_cons_zero, List.set_cons_succ]
          refine Fx.take (i := 5) (v := ?_) _ rfl (by kernel_rfl) (by kernel_rfl) (by rfl) hSS ?_ ?_
          rotate_left
          · (intro w' hSw; (try dsimp only at hSw); go_simp; first | done | with_reducible rfl)
          try simp only [List.getElem_toArray, List.getElem_cons_succ, List.getElem_cons_zero, Act.put, List.setIfInBounds_toArray, List.set_cons_zero, List.set_cons_succ]
          refine Fx.take (i := 6) (v := ?_) _ rfl (by kernel_rfl) (by kernel_rfl) (by rfl) hSS ?_ ?_
          rotate_left
          · (intro w' hSw; (try dsimp only at hSw); go_simp; first | done | with_reducible rfl)
          try simp only [List.getElem_toArray, List.getElem_cons_succ, List.getElem_cons_zero, Act.put, List.setIfInBounds_toArray, List.set_cons_zero, List.set_cons_succ]
          refine Fx.take (i := 7) (v := ?_) _ rfl (by kernel_rfl) (by kernel_rfl) (by rfl) hSS ?_ ?_
          rotate_left
          · (intro w' hSw; (try dsimp only at hSw); go_simp; first | done | with_reducible rfl)
          try simp only [List.getElem_toArray, List.getElem_cons_succ, List.getElem_cons_zero, Act.put, List.setIfInBounds_toArray, List.set_cons_zero, List.set_cons_succ]
          refine Fx.take (i := 8) (v := ?_) _ rfl (by kernel_rfl) (by kernel_rfl) (by rfl) hSS ?_ ?_
          rotate_left
          · (intro w' hSw; (try dsimp only at hSw); go_simp; first | done | with_reducible rfl)
          try simp only [List.getElem_toArray, List.getElem_cons_succ, List.getElem_cons_zero, Act.put, List.setIfInBounds_toArray, List.set_cons_zero, List.set_cons_succ]
          refine Fx.take (i := 9) (v := ?_) _ rfl (by kernel_rfl) (by kernel_rfl) (by rfl) hSS ?_ ?_
          rotate_left
          · (intro w' hSw; (try dsimp only at hSw); go_simp; first | done | with_reducible rfl)
          try simp only [List.getElem_toArray, List.getElem_cons_succ, List.getElem_cons_zero, Act.put, List.setIfInBounds_toArray, List.set_cons_zero, List.set_cons_succ]
          refine Fx.take (i := 10) (v := ?_) _ rfl (by kernel_rfl) (by kernel_rfl) (by rfl) hSS ?_ ?_
          rotate_left
          · (intro w' hSw; (try dsimp only at hSw); go_simp; first | done | with_reducible rfl)
          try simp only [List.getElem_toArray, List.getElem_cons_succ, List.getElem_cons_zero, Act.put, List.setIfInBounds_toArray, List.set_cons_zero, List.set_cons_succ]
          refine Fx.done 0 (by kernel_rfl) (by kernel_rfl) (fun w5 hC5 => ?_)
          subst hC5
          go_wp2_with fail
          go_ret
          exact ⟨ret_bool hr.out, HDR.out⟩
      · obtain rfl : i = n := by omega
        have hii : (i : Int) ≤ i := by omega
        have hr := Lib.hid (show true = decide (r1 = r2) by
          rw [decide_eq_true]
          have h := HT.out
          rw [List.take_of_length_le (by have := HN.out; omega), List.take_of_length_le (by have := HN.out; have := HLEN.out; omega)] at h
          exact h)
        go_wp2_with fail
        go_ret
        exact ⟨ret_bool hr.out, HM.out⟩
  · have hne : ((r1.length : Int) != (r2.length : Int)) = true := by
      rw [bne_iff_ne]
      omega
    have hr := Lib.hid (show false = decide (r1 = r2) by rw [decide_eq_false]; intro e; rw [e] at hlen; exact hlen rfl)
    go_enter Try.func32, Try.ntmps32
    go_wp2
    go_ret
    exact ⟨ret_bool hr.out, Mod.refl _ _⟩
end Go.Proofs.Ytceocpohdckkoaa.Bx
