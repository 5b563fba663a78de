/- The law SessOnce. -/
import Derived.Test.YtcbafomhifdgpaaSs7
namespace Go.Proofs.Ytcbafomhifdgpaa.Ss
open Go.RowKit Mem Si Bits
set_option linter.unusedSimpArgs false
set_option linter.unusedVariables false
set_option maxRecDepth 100000

theorem ints_rd {w : World} {a : Value} (h : Open.Rd w (.sl (.int .i64) 8) [a]) : ∃ (l : List Int) (ad : Option Addr) (cap : Nat), a = .slice ad l.length cap ∧ l.length ≤ 140737488351232 ∧ (∀ x ∈ l, -9223372036854775808 ≤ x ∧ x ≤ 9223372036854775807) ∧
    (l = [] ∨ ∃ b off, ad = some ⟨b, off, none⟩ ∧ ∀ k (hk : k < l.length), w.cell? ⟨b, off + k, none⟩ = some (.int .i64 l[k])) := by
  obtain ⟨v, rows, hv, ⟨ad, cap, rfl, hc1, hc2, hn, hpos, hcell⟩, hlen, hl1, hrd⟩ := h
  obtain rfl : a = _ := by simpa using hv
  obtain ⟨l, rfl, hl⟩ := Open.rows_map (rows := rows) (fun n : Int => [Value.int .i64 n]) (fun x => -9223372036854775808 ≤ x ∧ x ≤ 9223372036854775807) (fun r hr => by
    obtain ⟨n, rfl, hwf⟩ := hrd r hr
    have h0 : -9223372036854775808 ≤ n ∧ n ≤ 9223372036854775807 := by simpa [Lit.wf, IntKind.min, IntKind.max, IntKind.signed, IntKind.bits] using hwf
    exact ⟨n, rfl, h0⟩)
  refine ⟨l, ad, cap, by simp, by simp at hlen; omega, hl, ?_⟩
  by_cases h0 : l = []
  · exact .inl h0
  · obtain ⟨b, off, rfl⟩ := hpos (by simpa using h0) (by decide)
    refine .inr ⟨b, off, rfl, fun k hk => ?_⟩
    have := (hcell b off rfl k (by simpa using hk) 0 (by decide)).1
    simpa [Open.Sh.cells] using this
theorem keepC {a b : World} (m : Mod a b []) {p : Addr} {u : Value} (h : a.cell? p = some u) : b.cell? p = some u := (m.cell (Rw.cell_lt h) (by simp)).trans h

theorem up_one (s : Sn) : Up [s] := by
  intro i j hi hj hij
  simp at hi hj
  omega
theorem open1 (id : Int) (h : 1 ≤ id) (h2 : id ≤ 549755813888) : openL [] id = ([(id, 0)], 0) := by
  have hb : numB id = true := decide_eq_true ⟨h, h2⟩
  unfold openL
  rw [hb, if_neg (by simp), if_neg (by simp [has]), if_neg (by simp)]
  rfl
theorem may1 (id s x : Int) : mayL [(id, s)] id x = if numB x = false then (false, 1) else if s < x - 1 then (false, 170) else (decide (s < x), 0) := by
  have hh : has [(id, s)] id = true := by simp [has]
  have hp : pos [(id, s)] id = 0 := by simp [pos]
  have hs : sq [(id, s)] id = s := by unfold sq; rw [hp]; rfl
  unfold mayL
  rw [hh, hs, if_neg (by simp)]
theorem take1 (id s x : Int) : takeL [(id, s)] id x = if (mayL [(id, s)] id x).1 then [(id, x)] else [(id, s)] := by
  have hp : pos [(id, s)] id = 0 := by simp [pos]
  unfold takeL
  rw [hp]; rfl

theorem once_skip (id s x : Int) (h0 : 0 ≤ s) (h1 : s ≤ 1000) (E : Int) (hE : E = if numB x = false then 1 else if s < x - 1 then 170 else 0) (hx : x ≠ s + 1) : mayL [(id, s)] id x = (false, E) ∧ takeL [(id, s)] id x = [(id, s)] := by
  have hm : mayL [(id, s)] id x = (false, E) := by
    rw [may1, hE]
    by_cases hb : numB x = false
    · rw [if_pos hb, if_pos hb]
    · rw [if_neg hb, if_neg hb]
      by_cases h : s < x - 1
      · rw [if_pos h, if_pos h]
      · rw [if_neg h, if_neg h, decide_eq_false (by omega)]
  exact ⟨hm, by rw [take1, hm]; rfl⟩
theorem once_fresh (id s : Int) (h0 : 0 ≤ s) (h1 : s ≤ 1000) : mayL [(id, s)] id (s + 1) = (true, 0) ∧ takeL [(id, s)] id (s + 1) = [(id, s + 1)] := by
  have hb : numB (s + 1) = true := decide_eq_true ⟨by omega, by omega⟩
  have hm : mayL [(id, s)] id (s + 1) = (true, 0) := by
    rw [may1, hb, if_neg (by simp), if_neg (by omega), decide_eq_true (by omega)]
  exact ⟨hm, by rw [take1, hm]; rfl⟩

set_option maxHeartbeats 4000000 in
theorem sessOnce_calls (w : World) (id : Int) (hid : (Lit.int .i64 id).wf = true) (a : Value) (ha : Open.Rd w (.sl (.int .i64) 8) [a]) :
    Calls Try.prog 6 #[.int .i64 id, a] w fun e w' => e = .returned (.bool true) ∧ Below w.heap.size w w' := by
  obtain ⟨xs, ad, cap, rfl, hl, hx, hcase⟩ := ints_rd ha
  have AW := Lib.hid awake_calls
  have NW := Lib.hid new_calls
  have NT := Lib.hid (new_tab w)
  have HM0 := Lib.hid ((Mod.refl w []).alloc (.cells #[.slice none 0 0] 101))
  clear ha
  by_cases hi1 : id < 1
  · go_enter Try.func6, Try.ntmps6
    go_wp2_with fail
    (with_reducible refine (NW.out _).mono ?_)
    rintro e w1 ⟨rfl, hw1⟩
    rw [← hw1] at HM0
    clear hw1
    go_wp2_with fail
    (with_reducible refine (AW.out _).mono ?_)
    rintro e w2 ⟨rfl, hm2⟩
    have HM2 := Lib.hid (HM0.out.trans0 hm2)
    clear hm2
    go_wp2_with fail
    (with_reducible refine (AW.out _).mono ?_)
    rintro e w3 ⟨rfl, hm3⟩
    have HM3 := Lib.hid (HM2.out.trans0 hm3)
    clear hm3
    go_wp2_with fail
    go_ret
    exact ⟨rfl, HM3.out.below0⟩
  · by_cases hi2 : 549755813888 < id
    · go_enter Try.func6, Try.ntmps6
      go_wp2_with fail
      (with_reducible refine (NW.out _).mono ?_)
      rintro e w1 ⟨rfl, hw1⟩
      rw [← hw1] at HM0
      clear hw1
      go_wp2_with fail
      (with_reducible refine (AW.out _).mono ?_)
      rintro e w2 ⟨rfl, hm2⟩
      have HM2 := Lib.hid (HM0.out.trans0 hm2)
      clear hm2
      go_wp2_with fail
      (with_reducible refine (AW.out _).mono ?_)
      rintro e w3 ⟨rfl, hm3⟩
      have HM3 := Lib.hid (HM2.out.trans0 hm3)
      clear hm3
      go_wp2_with fail
      go_ret
      exact ⟨rfl, HM3.out.below0⟩
    · have O := Lib.hid (fun t v w h => open_calls t v [] id w h (by simp) (up_of (by decide +kernel)))
      rw [open1 id (by omega) (by omega)] at O
      dsimp only at O
      have K := Lib.hid (fun (s x : Int) t v w h => take_calls t v [(id, s)] id x w h (by simp) (up_one _))
      have HC := Lib.hid hcase
      have HX := Lib.hid hx
      have hl' : (xs.length : Int) ≤ 140737488351232 := by omega
      clear hcase hx hid
      go_enter Try.func6, Try.ntmps6
      go_wp2_with fail
      (with_reducible refine (NW.out _).mono ?_)
      rintro e w1 ⟨rfl, hw1⟩
      rw [← hw1] at NT HM0
      clear hw1
      go_wp2_with fail
      (with_reducible refine (AW.out _).mono ?_)
      rintro e w2 ⟨rfl, hm2⟩
      have HM2 := Lib.hid (HM0.out.trans0 hm2)
      have HT2 := Lib.hid (NT.out.mod hm2 (by simp) (by simp))
      clear hm2 NT HM0
      go_wp2_with fail
      (with_reducible refine (O.out _ _ _ HT2.out).mono ?_)
      rintro e w3 ⟨rfl, h3⟩
      obtain ⟨v3, T3, M3⟩ := tab_step HM2.out (Nat.le_refl _) HT2.out h3
      have HT3 := Lib.hid T3
      have HM3 := Lib.hid M3
      clear h3 T3 M3 HT2 HM2
      go_wp2_with fail
      go_loopw [6, 7] (fun vn vi wr => ∃ i s : Nat, s ≤ i ∧ i ≤ 300 ∧ i ≤ xs.length ∧ vn = .int .i64 ((s : Int) + 1) ∧ vi = .int .i64 (i : Int) ∧ Mod w wr [] ∧ ∃ v, TabAt wr w.heap.size v [(id, (s : Int))]) (fun _ vi _ => 301 - (intOf vi).toNat)
      case atStart => exact ⟨0, 0, Nat.le_refl _, by omega, by omega, rfl, rfl, HM3.out, v3, HT3.out⟩
      case round =>
        obtain ⟨i, s, hsi, hi3, hil, rfl, rfl, hm, v, ht⟩ := hrel
        have HM := Lib.hid hm
        have HT := Lib.hid ht
        clear hm ht HM3 HT3
        by_cases hlt : i < xs.length
        · have hlt' : (i : Int) < xs.length := by omega
          by_cases h300 : i < 300
          · have h300' : (i : Int) < 300 := by omega
            obtain ⟨b, off, rfl, hc⟩ := HC.out.resolve_left (fun h => by rw [h] at hlt; simp at hlt)
            have c0 := keepC HM.out (hc i hlt)
            have hxr := HX.out _ (List.getElem_mem hlt)
            have hcK := hc i hlt
            have HK := Lib.hid (fun w' (hm' : Mod w w' []) => keepC hm' hcK)
            clear hc hcK
            generalize xs[i]'hlt = x at *
            by_cases hxs : x = (s : Int) + 1
            · have hf := once_fresh id s (by omega) (by omega)
              have K1 := Lib.hid (K.out s x)
              rw [hxs, hf.1, hf.2] at K1
              dsimp only at K1
              subst hxs
              clear hf
              go_wp2_with fail
              (with_reducible refine (K1.out _ _ _ HT.out).mono ?_)
              rintro e w4 ⟨rfl, h4⟩
              obtain ⟨v4, T4, M4⟩ := tab_step HM.out (Nat.le_refl _) HT.out h4
              have HT4 := Lib.hid T4
              have HM4 := Lib.hid M4
              have c1 := HK.out _ M4
              clear h4 T4 M4 HT HM c0
              go_wp2_with fail
              go_roundw
              case rel => exact ⟨i + 1, s + 1, by omega, by omega, by omega, by go_num, by go_num, HM4.out, v4, by rw [Int.natCast_add]; exact HT4.out⟩
              case measure => simp [intOf]; omega
            · obtain ⟨E, hE⟩ : ∃ E, E = if numB x = false then (1 : Int) else if (s : Int) < x - 1 then 170 else 0 := ⟨_, rfl⟩
              have hf := once_skip id s x (by omega) (by omega) E hE hxs
              have K1 := Lib.hid (K.out s x)
              rw [hf.1, hf.2] at K1
              dsimp only at K1
              have hB : numB x = decide (1 ≤ x ∧ x ≤ 549755813888) := rfl
              have hcs : (x < 1 ∧ E = 1) ∨ (549755813888 < x ∧ E = 1) ∨ (1 ≤ x ∧ (s : Int) + 1 < x ∧ E = 170) ∨ (1 ≤ x ∧ x ≤ (s : Int) ∧ E = 0) := by
                rw [hB] at hE
                by_cases h1 : x < 1
                · left; exact ⟨h1, by rw [hE, if_pos (decide_eq_false (by omega))]⟩
                · by_cases h2 : 549755813888 < x
                  · right; left; exact ⟨h2, by rw [hE, if_pos (decide_eq_false (by omega))]⟩
                  · rw [if_neg (by simp; omega)] at hE
                    by_cases h3 : (s : Int) < x - 1
                    · right; right; left; exact ⟨by omega, by omega, by rw [hE, if_pos h3]⟩
                    · right; right; right; exact ⟨by omega, by omega, by rw [hE, if_neg h3]⟩
              clear hE hB hf
              rcases hcs with ⟨k1, rfl⟩ | ⟨k1, rfl⟩ | ⟨k1, k2, rfl⟩ | ⟨k1, k2, rfl⟩
              · have k3 : ¬ ((s : Int) + 1 = x) := by omega
                have k4 : (s : Int) ≤ 300 := by omega
                have kd0 : decide (1 ≤ x) = false := decide_eq_false (by omega)
                go_wp2_with fail
                (with_reducible refine (K1.out _ _ _ HT.out).mono ?_)
                rintro e w4 ⟨rfl, h4⟩
                obtain ⟨v4, T4, M4⟩ := tab_step HM.out (Nat.le_refl _) HT.out h4
                have HT4 := Lib.hid T4
                have HM4 := Lib.hid M4
                have c1 := HK.out _ M4
                clear h4 T4 M4 HT HM c0
                go_wp2_with fail
                go_roundw
                case rel => exact ⟨i + 1, s, by omega, by omega, by omega, rfl, by go_num, HM4.out, v4, HT4.out⟩
                case measure => simp [intOf]; omega
              · have k3 : ¬ ((s : Int) + 1 = x) := by omega
                have k4 : (s : Int) ≤ 300 := by omega
                have kd0 : decide (1 ≤ x) = true := decide_eq_true (by omega)
                have kd1 : decide (x ≤ (s : Int) + 1) = false := decide_eq_false (by omega)
                go_wp2_with fail
                (with_reducible refine (K1.out _ _ _ HT.out).mono ?_)
                rintro e w4 ⟨rfl, h4⟩
                obtain ⟨v4, T4, M4⟩ := tab_step HM.out (Nat.le_refl _) HT.out h4
                have HT4 := Lib.hid T4
                have HM4 := Lib.hid M4
                have c1 := HK.out _ M4
                clear h4 T4 M4 HT HM c0
                go_wp2_with fail
                go_roundw
                case rel => exact ⟨i + 1, s, by omega, by omega, by omega, rfl, by go_num, HM4.out, v4, HT4.out⟩
                case measure => simp [intOf]; omega
              · have k3 : ¬ ((s : Int) + 1 = x) := by omega
                have k4 : (s : Int) ≤ 300 := by omega
                have kd0 : decide (1 ≤ x) = true := decide_eq_true (by omega)
                have kd1 : decide (x ≤ (s : Int) + 1) = false := decide_eq_false (by omega)
                go_wp2_with fail
                (with_reducible refine (K1.out _ _ _ HT.out).mono ?_)
                rintro e w4 ⟨rfl, h4⟩
                obtain ⟨v4, T4, M4⟩ := tab_step HM.out (Nat.le_refl _) HT.out h4
                have HT4 := Lib.hid T4
                have HM4 := Lib.hid M4
                have c1 := HK.out _ M4
                clear h4 T4 M4 HT HM c0
                go_wp2_with fail
                go_roundw
                case rel => exact ⟨i + 1, s, by omega, by omega, by omega, rfl, by go_num, HM4.out, v4, HT4.out⟩
                case measure => simp [intOf]; omega
              · have k3 : ¬ ((s : Int) + 1 = x) := by omega
                have k4 : (s : Int) ≤ 300 := by omega
                have kd0 : decide (1 ≤ x) = true := decide_eq_true (by omega)
                have kd1 : decide (x ≤ (s : Int) + 1) = true := decide_eq_true (by omega)
                go_wp2_with fail
                (with_reducible refine (K1.out _ _ _ HT.out).mono ?_)
                rintro e w4 ⟨rfl, h4⟩
                obtain ⟨v4, T4, M4⟩ := tab_step HM.out (Nat.le_refl _) HT.out h4
                have HT4 := Lib.hid T4
                have HM4 := Lib.hid M4
                have c1 := HK.out _ M4
                clear h4 T4 M4 HT HM c0
                go_wp2_with fail
                go_roundw
                case rel => exact ⟨i + 1, s, by omega, by omega, by omega, rfl, by go_num, HM4.out, v4, HT4.out⟩
                case measure => simp [intOf]; omega
          · have h300' : (300 : Int) ≤ i := by omega
            go_wp2_with fail
            go_ret
            exact ⟨rfl, HM.out.below0⟩
        · have hge : (xs.length : Int) ≤ i := by omega
          go_wp2_with fail
          go_ret
          exact ⟨rfl, HM.out.below0⟩
end Go.Proofs.Ytcbafomhifdgpaa.Ss
