/- The search for a session. -/
import Derived.Test.YtcbafomhifdgpaaSs1
namespace Go.Proofs.Ytcbafomhifdgpaa.Ss
open Go.RowKit Mem Si
set_option linter.unusedSimpArgs false
set_option linter.unusedVariables false
set_option maxRecDepth 100000

set_option maxHeartbeats 4000000 in
theorem search_row (g cap : Nat) (l : List Sn) (id : Int) (w : World) (hgl : g < w.heap.size) (hn : l.length ≤ 1000) (hu : Up l)
    (hc : ∀ i (hi : i < l.length), w.cell? ⟨g, i * 2, none⟩ = some (.int .i64 l[i].1) ∧ w.cell? ⟨g, i * 2 + 1, none⟩ = some (.int .i64 l[i].2)) :
    Calls Try.prog 70 #[.slice (some ⟨g, 0, none⟩) l.length cap, .int .i64 id, .func (.func 71) #[] #[]] w
      fun e w' => e = .returned (.tuple #[.int .i64 (pos l id), .bool (has l id)]) ∧ Mod w w' [] := by
  have CM := Lib.hid (fun a b w => cmp_calls a b id w)
  have HC := Lib.hid hc
  have HU := Lib.hid hu
  obtain ⟨p, hp⟩ : ∃ p, p = pos l id := ⟨_, rfl⟩
  obtain ⟨q, hq⟩ : ∃ q, q = has l id := ⟨_, rfl⟩
  rw [← hp, ← hq]
  have HP := Lib.hid hp
  have HQ := Lib.hid hq
  clear hc hu hp hq
  go_enter Try.func70, Try.ntmps70
  go_wp2_with fail
  go_loopw [9, 10] (fun vl vh wr => ∃ lo hi : Nat, vl = .int .i64 (lo : Int) ∧ vh = .int .i64 (hi : Int) ∧ lo ≤ hi ∧ hi ≤ l.length ∧ Mod w wr [] ∧
    Hid ((∀ t (ht : t < l.length), t < lo → l[t].1 < id) ∧ (∀ t (ht : t < l.length), hi ≤ t → id ≤ l[t].1))) (fun vl vh _ => (intOf vh - intOf vl).toNat)
  case atStart => exact ⟨0, l.length, rfl, rfl, Nat.zero_le _, Nat.le_refl _, Mod.refl _ _, Lib.hid ⟨fun t ht h => absurd h (Nat.not_lt_zero _), fun t ht h => by omega⟩⟩
  case round =>
    obtain ⟨lo, hi, rfl, rfl, hlh, hin, hm, HI⟩ := hrel
    have HM := Lib.hid hm
    clear hm
    by_cases hlt : lo < hi
    · have hmid : (lo + hi) / 2 < l.length := by omega
      obtain ⟨c0, c1⟩ := HC.out ((lo + hi) / 2) hmid
      rw [← HM.out.cell (p := ⟨g, (lo + hi) / 2 * 2, none⟩) hgl (by simp)] at c0
      rw [← HM.out.cell (p := ⟨g, (lo + hi) / 2 * 2 + 1, none⟩) hgl (by simp)] at c1
      by_cases hyx : (l[(lo + hi) / 2]'hmid).1 < id
      · have HX : Hid (∀ t (ht : t < l.length), t < (lo + hi) / 2 + 1 → l[t].1 < id) := Lib.hid (fun t ht h => by
          rcases Nat.lt_or_ge t ((lo + hi) / 2) with h' | h'
          · have := HU.out t _ ht hmid h'; omega
          · have e : t = (lo + hi) / 2 := by omega
            subst e; exact hyx)
        have hcm : cmpI (l[(lo + hi) / 2]'hmid).1 id = -1 := by unfold cmpI; rw [if_pos hyx]
        have CM1 := Lib.hid (fun b w => hcm ▸ CM.out (l[(lo + hi) / 2]'hmid).1 b w)
        clear hcm
        generalize l[(lo + hi) / 2]'hmid = y at *
        go_wp2_with (go_at_call 71; (with_reducible refine (CM1.out _ _).mono ?_); rintro e w1 ⟨rfl, hm1⟩)
        go_roundw
        case rel => exact ⟨(lo + hi) / 2 + 1, hi, by go_num, rfl, by omega, hin, HM.out.trans0 hm1, Lib.hid ⟨HX.out, HI.out.2⟩⟩
        case measure => simp [intOf]; omega
      · have HX : Hid (∀ t (ht : t < l.length), (lo + hi) / 2 ≤ t → id ≤ l[t].1) := Lib.hid (fun t ht h => by
          rcases Nat.lt_or_ge ((lo + hi) / 2) t with h' | h'
          · have := HU.out _ t hmid ht h'; omega
          · have e : t = (lo + hi) / 2 := by omega
            subst e; omega)
        have hcm : 0 ≤ cmpI (l[(lo + hi) / 2]'hmid).1 id := by unfold cmpI; rw [if_neg hyx]; split <;> omega
        obtain ⟨k, hk⟩ : ∃ k, k = cmpI (l[(lo + hi) / 2]'hmid).1 id := ⟨_, rfl⟩
        have CM1 := Lib.hid (fun b w => hk ▸ CM.out (l[(lo + hi) / 2]'hmid).1 b w)
        rw [← hk] at hcm
        clear hk
        generalize l[(lo + hi) / 2]'hmid = y at *
        go_wp2_with (go_at_call 71; (with_reducible refine (CM1.out _ _).mono ?_); rintro e w1 ⟨rfl, hm1⟩)
        go_roundw
        case rel => exact ⟨lo, (lo + hi) / 2, rfl, by go_num, by omega, by omega, HM.out.trans0 hm1, Lib.hid ⟨HI.out.1, HX.out⟩⟩
        case measure => simp [intOf]; omega
    · obtain rfl : hi = lo := by omega
      have hpos := pos_cut hin HI.out.1 HI.out.2
      by_cases hn : hi < l.length
      · obtain ⟨c0, c1⟩ := HC.out hi hn
        rw [← HM.out.cell (p := ⟨g, hi * 2, none⟩) hgl (by simp)] at c0
        rw [← HM.out.cell (p := ⟨g, hi * 2 + 1, none⟩) hgl (by simp)] at c1
        have hge := HI.out.2 hi hn (Nat.le_refl _)
        have hhas := has_at HU.out HI.out.1 hn hge
        have HF : Hid (p = hi ∧ q = decide ((l[hi]'hn).1 = id)) := Lib.hid ⟨HP.out.trans hpos, HQ.out.trans hhas⟩
        have hcm : cmpI (l[hi]'hn).1 id = if (l[hi]'hn).1 = id then 0 else 1 := by unfold cmpI; rw [if_neg (by omega)]; split <;> split <;> omega
        have CM1 := Lib.hid (fun b w => hcm ▸ CM.out (l[hi]'hn).1 b w)
        clear hcm hhas hpos hge
        generalize l[hi]'hn = y at *
        by_cases hy : y.1 = id
        · rw [if_pos hy] at CM1
          have HY := Lib.hid hy
          clear hy
          go_wp2_with (go_at_call 71; (with_reducible refine (CM1.out _ _).mono ?_); rintro e w1 ⟨rfl, hm1⟩)
          go_ret2
          exact ⟨by rw [HF.out.1, HF.out.2]; simp [HY.out], HM.out.trans0 hm1⟩
        · rw [if_neg hy] at CM1
          have HY := Lib.hid hy
          clear hy
          go_wp2_with (go_at_call 71; (with_reducible refine (CM1.out _ _).mono ?_); rintro e w1 ⟨rfl, hm1⟩)
          go_ret2
          exact ⟨by rw [HF.out.1, HF.out.2]; simp [HY.out], HM.out.trans0 hm1⟩
      · have hend := has_end (fun t ht => HI.out.1 t ht (by omega))
        have HF : Hid (p = hi ∧ q = false) := Lib.hid ⟨HP.out.trans hpos, HQ.out.trans hend⟩
        clear hend hpos
        go_wp2
        go_ret2
        exact ⟨by rw [HF.out.1, HF.out.2]; simp [hn], HM.out⟩
end Go.Proofs.Ytcbafomhifdgpaa.Ss
