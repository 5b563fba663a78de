/- The heap's down. (Printed by mkAg5.py.) -/
import Derived.Test.YtgmenlfhkhdbdaaAg4
namespace Go.Proofs.Ytgmenlfhkhdbdaa.Ag
open Go.RowKit Mem
set_option linter.unusedSimpArgs false
set_option linter.unusedVariables false
set_option maxRecDepth 100000

def DnP (g : Nat) (v : Value) (last : Int) (l : List It) (n i0 : Nat) (w : World) (e : Ending) (w' : World) : Prop :=
  ∃ (b : Bool) (l' : List It), e = .returned (.bool b) ∧ l'.Perm l ∧ l'.length = l.length ∧ (∀ k, n ≤ k → gt l' k = gt l k) ∧ PlAt w' g v last l' ∧ Mod w w' v.ownBlock.toList ∧
    (b = true → IsHeap l' n) ∧ (b = false → l' = l ∧ HeapX l n i0)
theorem dn_end {g : Nat} {v : Value} {last : Int} {l l' : List It} {n i i0 : Nat} {w w' : World} (h0 : i0 ≤ i) (hd : DnH l' n i i0) (hs : i = i0 → l' = l) (hc : ∀ k, 1 ≤ k → k < n → (k - 1) / 2 = i → le (gt l' i) (gt l' k))
    (hp : l'.Perm l) (hl : l'.length = l.length) (hk : ∀ k, n ≤ k → gt l' k = gt l k) (hpl : PlAt w' g v last l') (hm : Mod w w' v.ownBlock.toList) (b : Bool) (hb : b = decide (i0 < i)) : DnP g v last l n i0 w (.returned (.bool b)) w' := by
  have hx := hd.done hc
  refine ⟨b, l', rfl, hp, hl, hk, hpl, hm, fun e => ?_, fun e => ?_⟩
  · have : i ≠ i0 := by
      rw [hb, decide_eq_true_iff] at e
      omega
    rw [if_neg this] at hx
    exact hx.zero
  · have : i = i0 := by
      rw [hb, decide_eq_false_iff_not] at e
      omega
    rw [if_pos this] at hx
    rw [← hs this]
    exact ⟨rfl, hx⟩

set_option maxHeartbeats 4000000 in
theorem down_calls (g : Nat) (v : Value) (last : Int) (l : List It) (n i0 : Nat) (w : World) (h : PlAt w g v last l) (hn : l.length ≤ 100000) (hnl : n ≤ l.length) (hi0 : i0 ≤ 100000) (hd : DnH l n i0 i0) :
    Calls Try.prog 121 #[.iface 155 (.pointer (some ⟨g, 0, none⟩)), .int .i64 (i0 : Int), .int .i64 (n : Int)] w (DnP g v last l n i0 w) := by
  have HP := Lib.hid h
  have HD := Lib.hid hd
  have LC := Lib.hid less_calls
  have SC := Lib.hid swap_calls
  have hn2 : (n : Int) ≤ 100000 := by omega
  have hi2 : (i0 : Int) ≤ 100000 := by omega
  clear h hd
  go_enter Try.func121, Try.ntmps121
  go_wp2_with fail
  go_loopw [7] (fun vi wr => ∃ (i : Nat) (l' : List It), vi = .int .i64 (i : Int) ∧ i0 ≤ i ∧ i ≤ 100000 ∧ Hid (l'.Perm l) ∧ l'.length = l.length ∧ Hid (DnH l' n i i0) ∧ Hid (i = i0 → l' = l) ∧ Hid (∀ k, n ≤ k → gt l' k = gt l k) ∧ PlAt wr g v last l' ∧ Mod w wr v.ownBlock.toList) (fun vi _ => 200001 - (intOf vi).toNat)
  case atStart => exact ⟨i0, l, rfl, Nat.le_refl _, hi0, Lib.hid (List.Perm.refl _), rfl, HD, Lib.hid (fun _ => rfl), Lib.hid (fun _ _ => rfl), HP.out, Mod.refl _ _⟩
  case round =>
    obtain ⟨i, l', rfl, hii, hi3, HPM, hlen, HD', HE, HK, hp, hm⟩ := hrel
    have HP' := Lib.hid hp
    have HM := Lib.hid hm
    have hi4 : (i : Int) ≤ 100000 := by omega
    have hi5 : (0 : Int) ≤ i := by omega
    clear hp hm HD HP
    have mL := m_less wr ⟨g, 0, none⟩ (HP'.out.1.cell 0)
    by_cases hj1 : 2 * i + 1 < n
    · have hj1' : 2 * (i : Int) + 1 < n := by omega
      by_cases hj2 : 2 * i + 1 + 1 < n
      · have hj2' : 2 * (i : Int) + 1 + 1 < n := by omega
        have LC1 := Lib.hid (LC.out (g + 1) v l' (2 * i + 1 + 1) (2 * i + 1) (by omega) (by omega) wr HP'.out.2 (by omega))
        rw [show ((2 * i + 1 + 1 : Nat) : Int) = 2 * (i : Int) + 1 + 1 by omega, show ((2 * i + 1 : Nat) : Int) = 2 * (i : Int) + 1 by omega] at LC1
        cases hs : soon (gt l' (2 * i + 1 + 1)) (gt l' (2 * i + 1)) with
        | true =>
          rw [hs] at LC1
          have HMIN : Hid (∀ k, 1 ≤ k → k < n → (k - 1) / 2 = i → le (gt l' (2 * i + 1 + 1)) (gt l' k)) := Lib.hid (fun k k1 kn kp => by
            rcases (by omega : k = 2 * i + 1 ∨ k = 2 * i + 1 + 1) with rfl | rfl
            · exact soon_le hs
            · exact le_refl _)
          clear hs
          go_wp2_with fail
          (with_reducible refine LC1.out.mono ?_)
          rintro e wa ⟨rfl, hma⟩
          have HPa := Lib.hid (HP'.out.mod hma (by simp) (by simp))
          have HMa := Lib.hid (HM.out.trans hma (R := v.ownBlock.toList) (by simp))
          clear hma mL LC1
          have mL := m_less wa ⟨g, 0, none⟩ (HPa.out.1.cell 0)
          -- j is 2 * i + 1 + 1
          have LCj := Lib.hid (LC.out (g + 1) v l' (2 * i + 1 + 1) i (by omega) (by omega) wa HPa.out.2 (by omega))
          rw [show ((2 * i + 1 + 1 : Nat) : Int) = 2 * (i : Int) + 1 + 1 by omega] at LCj
          cases ht : soon (gt l' (2 * i + 1 + 1)) (gt l' i) with
          | false =>
            rw [ht] at LCj
            have HF : Hid (∀ w2, Mod wa w2 [] → DnP g v last l n i0 w (.returned (.bool (decide (i0 < i)))) w2) := Lib.hid (fun w2 hm => dn_end hii HD'.out HE.out (fun k k1 kn kp => le_trans ht (HMIN.out k k1 kn kp)) HPM.out hlen HK.out (HPa.out.mod hm (by simp) (by simp)) (HMa.out.trans hm (by simp)) _ rfl)
            clear HPM HD' HE HK HM SC ht HMIN
            go_wp2_with fail
            (with_reducible refine LCj.out.mono ?_)
            rintro e wf ⟨rfl, hmf⟩
            have HFF := Lib.hid (HF.out _ hmf)
            clear hmf HF
            go_wp2_with fail
            go_ret
            exact HFF.out
          | true =>
            rw [ht] at LCj
            have HS := Lib.hid (HD'.out.step (j := 2 * i + 1 + 1) (by omega) (by omega) (by omega) (by omega) ht HMIN.out hii)
            clear ht
            go_wp2_with fail
            (with_reducible refine LCj.out.mono ?_)
            rintro e wf ⟨rfl, hmf⟩
            have HPf := Lib.hid (HPa.out.mod hmf (by simp) (by simp))
            have HMf := Lib.hid (HMa.out.trans hmf (R := v.ownBlock.toList) (by simp))
            clear hmf mL LCj
            have mS := m_swap wf ⟨g, 0, none⟩ (HPf.out.1.cell 0)
            have SC1 := Lib.hid (SC.out (g + 1) v l' i (2 * i + 1 + 1) (by omega) (by omega) wf HPf.out.2 (by omega))
            rw [show ((2 * i + 1 + 1 : Nat) : Int) = 2 * (i : Int) + 1 + 1 by omega] at SC1
            go_wp2_with fail
            (with_reducible refine SC1.out.mono ?_)
            rintro e ws ⟨rfl, hms, hit⟩
            have HPs : Hid (PlAt ws g v last (sw l' i (2 * i + 1 + 1))) := Lib.hid ⟨HPf.out.1.mod hms (fun hh => by have := (HPf.out.own g (by simpa using hh)).1; omega), hit⟩
            have HMs := Lib.hid (HMf.out.trans hms (R := v.ownBlock.toList) (fun r hr => .inl hr))
            clear hms hit SC1
            go_wp2_with fail
            go_roundw
            case rel =>
              refine ⟨2 * i + 1 + 1, sw l' i (2 * i + 1 + 1), by go_num, by omega, by omega, Lib.hid ((sw_perm (by omega) (by omega)).trans HPM.out), by rw [sw_len]; exact hlen, Lib.hid HS.out, Lib.hid (fun e => by omega), Lib.hid (fun k hk => ?_), HPs.out, HMs.out⟩
              rw [gt_sw (by omega) (by omega), if_neg (by omega), if_neg (by omega)]
              exact HK.out k hk
            case measure => simp [intOf]; omega
        | false =>
          rw [hs] at LC1
          have HMIN : Hid (∀ k, 1 ≤ k → k < n → (k - 1) / 2 = i → le (gt l' (2 * i + 1)) (gt l' k)) := Lib.hid (fun k k1 kn kp => by
            rcases (by omega : k = 2 * i + 1 ∨ k = 2 * i + 1 + 1) with rfl | rfl
            · exact le_refl _
            · exact hs)
          clear hs
          go_wp2_with fail
          (with_reducible refine LC1.out.mono ?_)
          rintro e wa ⟨rfl, hma⟩
          have HPa := Lib.hid (HP'.out.mod hma (by simp) (by simp))
          have HMa := Lib.hid (HM.out.trans hma (R := v.ownBlock.toList) (by simp))
          clear hma mL LC1
          have mL := m_less wa ⟨g, 0, none⟩ (HPa.out.1.cell 0)
          -- j is 2 * i + 1
          have LCj := Lib.hid (LC.out (g + 1) v l' (2 * i + 1) i (by omega) (by omega) wa HPa.out.2 (by omega))
          rw [show ((2 * i + 1 : Nat) : Int) = 2 * (i : Int) + 1 by omega] at LCj
          cases ht : soon (gt l' (2 * i + 1)) (gt l' i) with
          | false =>
            rw [ht] at LCj
            have HF : Hid (∀ w2, Mod wa w2 [] → DnP g v last l n i0 w (.returned (.bool (decide (i0 < i)))) w2) := Lib.hid (fun w2 hm => dn_end hii HD'.out HE.out (fun k k1 kn kp => le_trans ht (HMIN.out k k1 kn kp)) HPM.out hlen HK.out (HPa.out.mod hm (by simp) (by simp)) (HMa.out.trans hm (by simp)) _ rfl)
            clear HPM HD' HE HK HM SC ht HMIN
            go_wp2_with fail
            (with_reducible refine LCj.out.mono ?_)
            rintro e wf ⟨rfl, hmf⟩
            have HFF := Lib.hid (HF.out _ hmf)
            clear hmf HF
            go_wp2_with fail
            go_ret
            exact HFF.out
          | true =>
            rw [ht] at LCj
            have HS := Lib.hid (HD'.out.step (j := 2 * i + 1) (by omega) (by omega) (by omega) (by omega) ht HMIN.out hii)
            clear ht
            go_wp2_with fail
            (with_reducible refine LCj.out.mono ?_)
            rintro e wf ⟨rfl, hmf⟩
            have HPf := Lib.hid (HPa.out.mod hmf (by simp) (by simp))
            have HMf := Lib.hid (HMa.out.trans hmf (R := v.ownBlock.toList) (by simp))
            clear hmf mL LCj
            have mS := m_swap wf ⟨g, 0, none⟩ (HPf.out.1.cell 0)
            have SC1 := Lib.hid (SC.out (g + 1) v l' i (2 * i + 1) (by omega) (by omega) wf HPf.out.2 (by omega))
            rw [show ((2 * i + 1 : Nat) : Int) = 2 * (i : Int) + 1 by omega] at SC1
            go_wp2_with fail
            (with_reducible refine SC1.out.mono ?_)
            rintro e ws ⟨rfl, hms, hit⟩
            have HPs : Hid (PlAt ws g v last (sw l' i (2 * i + 1))) := Lib.hid ⟨HPf.out.1.mod hms (fun hh => by have := (HPf.out.own g (by simpa using hh)).1; omega), hit⟩
            have HMs := Lib.hid (HMf.out.trans hms (R := v.ownBlock.toList) (fun r hr => .inl hr))
            clear hms hit SC1
            go_wp2_with fail
            go_roundw
            case rel =>
              refine ⟨2 * i + 1, sw l' i (2 * i + 1), by go_num, by omega, by omega, Lib.hid ((sw_perm (by omega) (by omega)).trans HPM.out), by rw [sw_len]; exact hlen, Lib.hid HS.out, Lib.hid (fun e => by omega), Lib.hid (fun k hk => ?_), HPs.out, HMs.out⟩
              rw [gt_sw (by omega) (by omega), if_neg (by omega), if_neg (by omega)]
              exact HK.out k hk
            case measure => simp [intOf]; omega
      · have hj2' : (n : Int) ≤ 2 * (i : Int) + 1 + 1 := by omega
        have HMIN : Hid (∀ k, 1 ≤ k → k < n → (k - 1) / 2 = i → le (gt l' (2 * i + 1)) (gt l' k)) := Lib.hid (fun k k1 kn kp => by
          obtain rfl : k = 2 * i + 1 := by omega
          exact le_refl _)
        -- j is 2 * i + 1
        have LCj := Lib.hid (LC.out (g + 1) v l' (2 * i + 1) i (by omega) (by omega) wr HP'.out.2 (by omega))
        rw [show ((2 * i + 1 : Nat) : Int) = 2 * (i : Int) + 1 by omega] at LCj
        cases ht : soon (gt l' (2 * i + 1)) (gt l' i) with
        | false =>
          rw [ht] at LCj
          have HF : Hid (∀ w2, Mod wr w2 [] → DnP g v last l n i0 w (.returned (.bool (decide (i0 < i)))) w2) := Lib.hid (fun w2 hm => dn_end hii HD'.out HE.out (fun k k1 kn kp => le_trans ht (HMIN.out k k1 kn kp)) HPM.out hlen HK.out (HP'.out.mod hm (by simp) (by simp)) (HM.out.trans hm (by simp)) _ rfl)
          clear HPM HD' HE HK HM SC ht HMIN
          go_wp2_with fail
          (with_reducible refine LCj.out.mono ?_)
          rintro e wf ⟨rfl, hmf⟩
          have HFF := Lib.hid (HF.out _ hmf)
          clear hmf HF
          go_wp2_with fail
          go_ret
          exact HFF.out
        | true =>
          rw [ht] at LCj
          have HS := Lib.hid (HD'.out.step (j := 2 * i + 1) (by omega) (by omega) (by omega) (by omega) ht HMIN.out hii)
          clear ht
          go_wp2_with fail
          (with_reducible refine LCj.out.mono ?_)
          rintro e wf ⟨rfl, hmf⟩
          have HPf := Lib.hid (HP'.out.mod hmf (by simp) (by simp))
          have HMf := Lib.hid (HM.out.trans hmf (R := v.ownBlock.toList) (by simp))
          clear hmf mL LCj
          have mS := m_swap wf ⟨g, 0, none⟩ (HPf.out.1.cell 0)
          have SC1 := Lib.hid (SC.out (g + 1) v l' i (2 * i + 1) (by omega) (by omega) wf HPf.out.2 (by omega))
          rw [show ((2 * i + 1 : Nat) : Int) = 2 * (i : Int) + 1 by omega] at SC1
          go_wp2_with fail
          (with_reducible refine SC1.out.mono ?_)
          rintro e ws ⟨rfl, hms, hit⟩
          have HPs : Hid (PlAt ws g v last (sw l' i (2 * i + 1))) := Lib.hid ⟨HPf.out.1.mod hms (fun hh => by have := (HPf.out.own g (by simpa using hh)).1; omega), hit⟩
          have HMs := Lib.hid (HMf.out.trans hms (R := v.ownBlock.toList) (fun r hr => .inl hr))
          clear hms hit SC1
          go_wp2_with fail
          go_roundw
          case rel =>
            refine ⟨2 * i + 1, sw l' i (2 * i + 1), by go_num, by omega, by omega, Lib.hid ((sw_perm (by omega) (by omega)).trans HPM.out), by rw [sw_len]; exact hlen, Lib.hid HS.out, Lib.hid (fun e => by omega), Lib.hid (fun k hk => ?_), HPs.out, HMs.out⟩
            rw [gt_sw (by omega) (by omega), if_neg (by omega), if_neg (by omega)]
            exact HK.out k hk
          case measure => simp [intOf]; omega
    · have hj1' : (n : Int) ≤ 2 * (i : Int) + 1 := by omega
      have HF : Hid (DnP g v last l n i0 w (.returned (.bool (decide (i0 < i)))) wr) := Lib.hid (dn_end hii HD'.out HE.out (fun k k1 kn kp => by omega) HPM.out hlen HK.out HP'.out HM.out _ rfl)
      clear HPM HD' HE HK HP' HM mL
      go_wp2_with fail
      go_ret
      exact HF.out
end Go.Proofs.Ytgmenlfhkhdbdaa.Ag
