/- A pile in memory: Pop; the heap's up and down. -/
import Derived.Test.YtgmenlfhkhdbdaaAg3
namespace Go.Proofs.Ytgmenlfhkhdbdaa.Ag
open Go.RowKit Mem
set_option linter.unusedSimpArgs false
set_option linter.unusedVariables false
set_option maxRecDepth 100000

theorem ItAt.pop {w : World} {base g n cap : Nat} {l : List It} {x : It} (h : ItAt w base (.slice (some ⟨g, 0, none⟩) n cap) (l ++ [x])) : ItAt w base (.slice (some ⟨g, 0, none⟩) l.length cap) l := by
  obtain ⟨h0, ⟨h1, _⟩ | ⟨g', cap', cur, h1, hg, hb, h2, h3, h4, h5⟩⟩ := h
  · cases h1
  · injection h1 with e1 e2 e3
    injection e1 with e1
    injection e1 with e1
    subst e1 e3
    rw [List.length_append] at h2 h5
    have h2' : l.length ≤ cap := by simp at h2; omega
    refine ⟨rowsI_len l, .inr ⟨g, cap, cur, rfl, hg, hb, h2', h3, h4, ?_⟩⟩
    have h6 : rowsI l = (rowsI (l ++ [x])).take (l.length * 3) := by rw [rowsI_take _ _ (by rw [List.length_append]; omega), List.take_left]
    rw [h6, ← h5, List.take_take]
    congr 1
    simp

set_option maxHeartbeats 1000000 in
theorem pop_calls (g : Nat) (v : Value) (last : Int) (l : List It) (x : It) (w : World) (h : PlAt w g v last (l ++ [x])) (hn : l.length ≤ 100000) :
    Calls Try.prog 206 #[.pointer (some ⟨g, 0, none⟩)] w fun e w' => e = .returned (.iface 102 (itV x)) ∧ AgP g v last l w w' := by
  rcases h.2.shape with ⟨_, h0⟩ | ⟨gb, cap, rfl, hgb, hc1, hc2, hgl, hfr, h4⟩
  · simp at h0
  · obtain ⟨c0, c1, c2⟩ := h4 l.length (by simp)
    rw [List.getElem_concat_length (by rfl)] at c0 c1 c2
    obtain ⟨x1, x2, x3⟩ := x
    simp only at c0 c1 c2
    have HP := Lib.hid h
    have b0 := h.1.cell 0
    have b1 := h.1.free 0
    have hg := h.1.lt
    have hn' : (l.length : Int) ≤ 100000 := by omega
    rw [List.length_append] at *
    simp only [List.length_cons, List.length_nil, Nat.zero_add] at *
    have HF : Hid (AgP g (.slice (some ⟨gb, 0, none⟩) (l.length + 1) cap) last l w ((w.setCell ⟨g, 0, none⟩ (.slice (some ⟨gb, 0, none⟩) l.length cap)).alloc (.cells #[.int .i64 x1, .int .i64 x2, .int .i64 x3] 102))) := Lib.hid (by
      refine ⟨.slice (some ⟨gb, 0, none⟩) l.length cap, ⟨?_, ?_⟩, ((Mod.refl w (g :: (Value.slice (some ⟨gb, 0, none⟩) (l.length + 1) cap).ownBlock.toList)).setCell (by simp) _).alloc _, fun k hk => .inl (by simpa [Value.ownBlock] using hk)⟩
      · have := (h.1.set 0 (.slice (some ⟨gb, 0, none⟩) l.length cap)).alloc (.cells #[.int .i64 x1, .int .i64 x2, .int .i64 x3] 102)
        simpa using this
      · have h5 := ItAt.pop h.2
        exact h5.mod (((Mod.refl w [g]).setCell (by simp) _).alloc _) (fun j hj => by have := own_ge h5 j hj; simp; omega))
    clear h h4
    show Calls _ _ _ _ fun e w' => e = .returned (.iface _ (.agg #[.int .i64 x1, .int .i64 x2, .int .i64 x3])) ∧ _
    go_enter Try.func206, Try.ntmps206
    go_wp2_with fail
    go_ret
    exact ⟨rfl, HF.out⟩

def UpP (g : Nat) (v : Value) (last : Int) (l : List It) (n : Nat) (w : World) (e : Ending) (w' : World) : Prop :=
  e = .returned (.tuple #[]) ∧ ∃ l', l'.Perm l ∧ l'.length = l.length ∧ IsHeap l' n ∧ (∀ k, n ≤ k → gt l' k = gt l k) ∧ PlAt w' g v last l' ∧ Mod w w' v.ownBlock.toList

set_option maxHeartbeats 2000000 in
theorem up_calls (g : Nat) (v : Value) (last : Int) (l : List It) (n j : Nat) (w : World) (h : PlAt w g v last l) (hn : l.length ≤ 100000) (hnl : n ≤ l.length) (hj : j < n) (hu : UpH l n j) :
    Calls Try.prog 120 #[.iface 155 (.pointer (some ⟨g, 0, none⟩)), .int .i64 (j : Int)] w (UpP g v last l n w) := by
  have HP := Lib.hid h
  have HU := Lib.hid hu
  have LC := Lib.hid less_calls
  have SC := Lib.hid swap_calls
  clear h hu
  go_enter Try.func120, Try.ntmps120
  go_wp2_with fail
  go_loopw [1] (fun vj wr => ∃ (j' : Nat) (l' : List It), vj = .int .i64 (j' : Int) ∧ j' < n ∧ Hid (l'.Perm l) ∧ l'.length = l.length ∧ Hid (UpH l' n j') ∧ Hid (∀ k, n ≤ k → gt l' k = gt l k) ∧ PlAt wr g v last l' ∧ Mod w wr v.ownBlock.toList) (fun vj _ => (intOf vj).toNat)
  case atStart => exact ⟨j, l, rfl, hj, Lib.hid (List.Perm.refl _), rfl, HU, Lib.hid (fun _ _ => rfl), HP.out, Mod.refl _ _⟩
  case round =>
    obtain ⟨j', l', rfl, hj', HPM, hlen, HU', HK, hp, hm⟩ := hrel
    have HP' := Lib.hid hp
    have HM := Lib.hid hm
    clear hp hm HU HP
    have mL := m_less wr ⟨g, 0, none⟩ (HP'.out.1.cell 0)
    have mS := m_swap wr ⟨g, 0, none⟩ (HP'.out.1.cell 0)
    rcases j' with _ | m
    · have HF : Hid (UpP g v last l n w (.returned (.tuple #[])) wr) := Lib.hid ⟨rfl, l', HPM.out, hlen, HU'.out.done (fun h => by omega), HK.out, HP'.out, HM.out⟩
      clear HPM HU' HK HP' HM mL mS
      go_wp2_with fail
      go_end0
      exact HF.out
    · have hm2 : ((m : Int) / 2 == (m : Int) + 1) = false := by rw [beq_eq_false_iff_ne]; omega
      have HDIV : Hid (((m : Int) / 2) = ((m / 2 : Nat) : Int)) := Lib.hid (by omega)
      have hq : ((m : Int) + 1 - 1).tdiv 2 = ((m / 2 : Nat) : Int) := by rw [show (m : Int) + 1 - 1 = (m : Int) by omega]; rfl
      have hml : m / 2 < l'.length := by omega
      have hm1 : m + 1 < l'.length := by omega
      have LC1 := Lib.hid (less_calls (g + 1) v l' (m + 1) (m / 2) hm1 hml wr HP'.out.2 (by omega))
      have hsz : (m : Int) + 1 ≤ 100000 := by omega
      rw [show ((m + 1 : Nat) : Int) = (m : Int) + 1 by omega, ← HDIV.out] at LC1
      clear LC
      cases hs : soon (gt l' (m + 1)) (gt l' (m / 2)) with
      | false =>
        rw [hs] at LC1
        have HF : Hid (∀ w2, Mod wr w2 [] → UpP g v last l n w (.returned (.tuple #[])) w2) := Lib.hid (fun w2 hm => ⟨rfl, l', HPM.out, hlen, HU'.out.done (fun _ _ => hs), HK.out, HP'.out.mod hm (by simp) (by simp), HM.out.trans hm (by simp)⟩)
        clear HPM HU' HK HM mS SC hs
        go_wp2_with fail
        (with_reducible refine LC1.out.mono ?_)
        rintro e w2 ⟨rfl, hm2⟩
        have HFF := Lib.hid (HF.out _ hm2)
        clear hm2 HF
        go_wp2_with fail
        go_end0
        exact HFF.out
      | true =>
        rw [hs] at LC1
        have HS := Lib.hid (HU'.out.step (by omega) (by omega) (by omega) hs)
        clear hs
        go_wp2_with fail
        (with_reducible refine LC1.out.mono ?_)
        rintro e w2 ⟨rfl, hm3⟩
        have HP2 := Lib.hid (HP'.out.mod hm3 (by simp) (by simp))
        have HM2 := Lib.hid (HM.out.trans hm3 (R := v.ownBlock.toList) (by simp))
        clear hm3 mL mS LC1
        have mS := m_swap w2 ⟨g, 0, none⟩ (HP2.out.1.cell 0)
        have SC1 := Lib.hid (SC.out (g + 1) v l' (m / 2) (m + 1) hml hm1 w2 HP2.out.2 (by omega))
        rw [show ((m + 1 : Nat) : Int) = (m : Int) + 1 by omega, ← HDIV.out] at SC1
        go_wp2_with fail
        (with_reducible refine SC1.out.mono ?_)
        rintro e w3 ⟨rfl, hm3, hit⟩
        have HP3 : Hid (PlAt w3 g v last (sw l' (m / 2) (m + 1))) := Lib.hid ⟨HP2.out.1.mod hm3 (fun hh => by have := (HP2.out.own g (by simpa using hh)).1; omega), hit⟩
        have HM3 := Lib.hid (HM2.out.trans hm3 (R := v.ownBlock.toList) (fun r hr => .inl hr))
        clear hm3 hit SC1
        go_wp2_with fail
        go_roundw
        case rel =>
          have hpar : (m + 1 - 1) / 2 = m / 2 := by omega
          refine ⟨m / 2, sw l' (m / 2) (m + 1), by rw [HDIV.out], by omega, Lib.hid ((sw_perm hml hm1).trans HPM.out), by rw [sw_len]; exact hlen, Lib.hid (by have h := HS.out; rw [hpar] at h; exact h), Lib.hid (fun k hk => ?_), HP3.out, HM3.out⟩
          rw [gt_sw hml hm1, if_neg (by omega), if_neg (by omega)]
          exact HK.out k hk
        case measure => simp [intOf]; omega
end Go.Proofs.Ytgmenlfhkhdbdaa.Ag
