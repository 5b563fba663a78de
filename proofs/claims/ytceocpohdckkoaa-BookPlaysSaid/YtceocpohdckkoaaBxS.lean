/- Books: the reference's Read. -/
import Derived.Test.YtceocpohdckkoaaBxR
namespace Go.Proofs.Ytceocpohdckkoaa.Bx
open Go.RowKit Mem Bits
set_option linter.unusedSimpArgs false
set_option linter.unusedVariables false
set_option maxRecDepth 100000

theorem all2_take {R : Value → List Int → Prop} : ∀ {us : List Value} {rows : List (List Int)}, All2 R us rows → ∀ n, All2 R (us.take n) (rows.take n)
  | _, _, .nil, n => by simp only [List.take_nil]; exact .nil
  | _, _, .cons h t, 0 => .nil
  | _, _, .cons h t, n + 1 => .cons h (all2_take t n)
def RReadP (P : Value → List Int → Prop) (w : World) (R : List (List Int) × Int × Int) (e : Ending) (w' : World) : Prop :=
  Mod w w' [] ∧ ∃ v, e = .returned (.tuple #[v, .int .i64 R.2.1, .int .i64 R.2.2]) ∧ RP P w' v R.1
theorem RP.nil (P : Value → List Int → Prop) (A : World) : RP P A (.slice none 0 0) [] := ⟨[], ⟨none, 0, rfl, Nat.le_refl _, .inl rfl⟩, .nil⟩

set_option maxHeartbeats 8000000 in
theorem rread_calls {P : Value → List Int → Prop} (hPs : ∀ u xs, P u xs → ∃ a n c, u = .slice a n c) {w : World} (base : Int) (v : Value) (rows : List (List Int)) (h : RP P w v rows) (f m : Int) (hf1 : f ≤ 9223372036854775807) (hm1 : m ≤ 9223372036854775807)
    (hb0 : 0 ≤ base) (hb1 : base ≤ 549755813888) (hl : rows.length ≤ 64) :
    Calls Try.prog 31 #[.agg #[.int .i64 base, v], .int .i64 f, .int .i64 m] w (RReadP P w (readS base rows f m)) := by
  have H := Lib.hid h
  have hl' : (rows.length : Int) ≤ 64 := by omega
  obtain ⟨va, vc, rfl, hvc⟩ := h.slice
  clear h
  by_cases h0 : f < 0
  · have hr := Lib.hid (show readS base rows f m = ([], 0, 1) by unfold readS; rw [if_pos (.inl h0)])
    go_enter Try.func31, Try.ntmps31
    go_wp2_with fail
    refine bodyPost_ret (v := .tuple #[.slice none 0 0, .int .i64 0, .int .i64 1]) (by simp [results, Try.results31, go_sem]) rfl ?_
    rw [hr.out]
    exact ⟨(Mod.refl w []).alloc _, _, rfl, RP.nil _ _⟩
  by_cases h1 : m < 0
  · have hr := Lib.hid (show readS base rows f m = ([], 0, 1) by unfold readS; rw [if_pos (.inr h1)])
    go_enter Try.func31, Try.ntmps31
    go_wp2_with fail
    refine bodyPost_ret (v := .tuple #[.slice none 0 0, .int .i64 0, .int .i64 1]) (by simp [results, Try.results31, go_sem]) rfl ?_
    rw [hr.out]
    exact ⟨(Mod.refl w []).alloc _, _, rfl, RP.nil _ _⟩
  by_cases h2 : f < base
  · have hr := Lib.hid (show readS base rows f m = ([], base, 180) by unfold readS; rw [if_neg (by omega), if_pos h2])
    have HB2 := Lib.hid (Blk.new w #[.int .i64 base, .slice va rows.length vc] 57)
    go_enter Try.func31, Try.ntmps31
    go_wp2_with fail
    have c20 : ((w.alloc (.cells #[.int .i64 base, .slice va rows.length vc] 57)).drew).cell? ⟨w.heap.size, 0, none⟩ = some (.int .i64 base) := HB2.out.drew.cell 0
    go_region
    all_goals (go_wp2; refine bodyPost_ret (v := .tuple #[.slice none 0 0, .int .i64 base, .int .i64 180]) (by simp [results, Try.results31, go_sem]) rfl ?_; rw [hr.out]; exact ⟨((Mod.refl w []).alloc _).drew, _, rfl, RP.nil _ _⟩)
  obtain ⟨mn, rfl⟩ : ∃ mn : Nat, m = (mn : Int) := ⟨m.toNat, by omega⟩
  obtain ⟨k, hk⟩ : ∃ k : Nat, f - base = (k : Int) := ⟨(f - base).toNat, by omega⟩
  have hr := Lib.hid (show readS base rows f (mn : Int) = ((rows.drop k).take mn, f + (((rows.drop k).take mn).length : Int), 0) by unfold readS; rw [if_neg (by omega), if_neg h2, hk]; rfl)
  have HK := Lib.hid hk
  obtain ⟨us, ⟨va', vc', hve, hcap, hcell⟩, hp⟩ := H.out
  have hlen := all2_len hp
  injection hve with e1 e2 e3
  subst e1 e3
  clear e2
  obtain ⟨L, hL⟩ : ∃ L, us.length = L := ⟨_, rfl⟩
  have HL := Lib.hid hL
  have HLR := Lib.hid (show rows.length = L by omega)
  have HP := Lib.hid hp
  have HC := Lib.hid hcell
  have HB2 := Lib.hid (Blk.new w #[.int .i64 base, .slice va rows.length vc] 57)
  have HM0 := Lib.hid ((Mod.refl w []).alloc (.cells #[.int .i64 base, .slice va rows.length vc] 57))
  rw [HLR.out] at hl' HB2 HM0 H hvc hl
  rw [HLR.out]
  clear hcap hcell hp hlen hL hk
  have hLn : (L : Int) ≤ vc := by omega
  have hf0 : 0 ≤ f := by omega
  have hmn : (mn : Int) ≤ 9223372036854775807 := hm1
  have FIN : Hid (∀ (i : Nat) (x : Value) (w' : World), Mod w w' [] → w'.ownsRow (w.heap.size + 1) tR 1 x i ((us.drop k).take i) → i ≤ mn → i ≤ L - k → (i = mn ∨ L ≤ k + i) → RReadP P w (readS base rows f (mn : Int)) (.returned (.tuple #[x, .int .i64 (f + (i : Int)), .int .i64 0])) w') := Lib.hid (fun i x w' hm ho h1 h2 h3 => by
    have hud : (us.drop k).length = L - k := by rw [List.length_drop, HL.out]
    have hrd : (rows.drop k).length = L - k := by rw [List.length_drop, HLR.out]
    have e1 : (us.drop k).take i = (us.drop k).take mn := by
      rcases h3 with rfl | h3
      · rfl
      · rw [List.take_of_length_le (by omega), List.take_of_length_le (by omega)]
    have e2 : ((rows.drop k).take mn).length = i := by
      rw [List.length_take, hrd]
      rcases h3 with rfl | h3 <;> omega
    rw [hr.out, e2]
    refine ⟨hm, x, rfl, (us.drop k).take i, RrU.own (base := w.heap.size + 1) (by rw [List.length_take, hud, Nat.min_eq_left h2]; exact ho), ?_⟩
    rw [e1]
    exact all2_take (all2_drop HP.out k) mn)
  clear H hr
  obtain ⟨i0, hinf, hz0, hz1, hz2⟩ := info_parts info_rr
  go_enter Try.func31, Try.ntmps31
  go_wp2_with fail
  go_loopw [9, 10] (fun vl vt wr => ∃ (i j : Nat) (t : Int) (la : Option Addr) (lc : Nat), vt = .int .i64 t ∧ vl = .slice la i lc ∧ t = f + (i : Int) ∧ j = k + i ∧ i ≤ mn ∧ i ≤ L - k ∧ Mod w wr [] ∧ Blk wr w.heap.size #[.int .i64 base, .slice va L vc] 57 ∧ wr.ownsRow (w.heap.size + 1) tR 1 (.slice la i lc) i ((us.drop k).take i)) (fun vl vt _ => (f + (mn : Int) - intOf vt).toNat)
  case atStart => exact ⟨0, k, f, none, 0, rfl, rfl, by simp, rfl, Nat.zero_le _, Nat.zero_le _, HM0.out, HB2.out, World.ownsRow_nil _ _ _ _⟩
  case round =>
    obtain ⟨i, j, t, la, lc, rfl, rfl, ht, hj, him, hiL, hm, hb2, hown⟩ := hrel
    have HM := Lib.hid hm
    have HD2 := Lib.hid hb2
    have HO := Lib.hid hown
    have HT := Lib.hid ht
    have HJ := Lib.hid hj
    have d20 := hb2.cell 0
    have d21 := hb2.cell 1
    have hszr := hm.size
    have hsub : t - base = (j : Int) := by have := HK.out; omega
    have ht0 : 0 ≤ t := by omega
    have hj0 : (0 : Int) ≤ j := by omega
    have hi0 : (0 : Int) ≤ i := by omega
    have htm : t - base ≤ 9223372036854775807 := by
      have := HK.out
      by_cases h : i = 0
      · omega
      · omega
    clear hm hb2 hown ht hj HM0 HB2
    by_cases hjL : j < L
    · have hjL' : (j : Int) < L := by omega
      have htb : t ≤ 549755813952 := by omega
      by_cases him2 : i < mn
      · have him' : (i : Int) < mn := by omega
        have hju : j < us.length := by have := HL.out; omega
        obtain ⟨b, off, cs, hva, hbb, hcc⟩ := HC.out.resolve_left (fun e => by rw [e] at hju; simp at hju)
        have hc := (Kept.mod HM.out).cell (hcc j hju)
        obtain ⟨ua, un, uc, hu⟩ := hPs _ _ (all2_get HP.out j hju (by have := HLR.out; omega))
        have HTD : Hid ((us.drop k).take (i + 1) = (us.drop k).take i ++ [.slice ua un uc]) := Lib.hid (by
          rw [List.take_succ_eq_append_getElem (by rw [List.length_drop]; have := HJ.out; omega), List.getElem_drop]
          simp only [← HJ.out]
          rw [hu])
        rw [hu] at hc
        subst hva
        clear hcc hbb hu
        have HN2 := Lib.hid (Blk.new wr #[.slice ua un uc] 26)
        have HO2 := Lib.hid (HO.out.alloc (.cells #[.slice ua un uc] 26))
        have HE2 := Lib.hid (HD2.out.alloc (.cells #[.slice ua un uc] 26))
        have HMA := Lib.hid (HM.out.alloc (.cells #[.slice ua un uc] 26))
        go_wp2_with (at_builtin; refine wpList_append_own _ rfl _ _ 55 rfl (w.heap.size + 1) 26 i0 _ 1 24 Try.underlying55 hinf hz0 hz1 hz2 rfl (by decide) _ _ _ rfl HO2.out ⟨wr.heap.size, 0, none⟩ 1 1 [.slice ua un uc] rfl rfl (new_one HN2.out) (by simp [Value.oneCell']) (by unfold maxLen; omega) (by omega) (by simp; omega) ?_; intro v' w3 hown' hgrow hnil; clear hnil; have HO3 := Lib.hid hown'; have HG3 := Lib.hid hgrow; clear hown' hgrow; obtain ⟨a3, c3, hv3⟩ := Rw.own_slice HO3.out; subst hv3)
        have HF2 := Lib.hid (Rw.blk_grown HE2.out HG3.out (fun e => by obtain ⟨cur, hb⟩ := own_blk HO2.out _ e.symm; exact blk_ne hb HE2.out (by decide) rfl))
        have HM3 := Lib.hid (HMA.out.grown HG3.out (fun k hk => .inr (by have := own_ge HO2.out k hk; omega)))
        go_roundw
        case rel => exact ⟨i + 1, j + 1, t + 1, a3, c3, rfl, rfl, by have := HT.out; omega, by have := HJ.out; omega, by omega, by have := HJ.out; omega, HM3.out, HF2.out, by rw [HTD.out]; exact HO3.out⟩
        case measure => have := HT.out; simp [intOf]; omega
      · have him' : ¬ (i : Int) < mn := by omega
        have him3 : (mn : Int) ≤ i := by omega
        have hfin := Lib.hid (FIN.out i (.slice la i lc) wr HM.out HO.out him hiL (.inl (by omega)))
        rw [← HT.out] at hfin
        go_wp2_with fail
        refine bodyPost_ret (v := .tuple #[.slice la i lc, .int .i64 t, .int .i64 0]) (by simp [results, Try.results31, go_sem]) rfl ?_
        exact hfin.out
    · have hjL' : ¬ (j : Int) < L := by omega
      have hjL3 : (L : Int) ≤ j := by omega
      have hfin := Lib.hid (FIN.out i (.slice la i lc) wr HM.out HO.out him hiL (.inr (by have := HJ.out; omega)))
      rw [← HT.out] at hfin
      go_wp2_with fail
      refine bodyPost_ret (v := .tuple #[.slice la i lc, .int .i64 t, .int .i64 0]) (by simp [results, Try.results31, go_sem]) rfl ?_
      exact hfin.out
end Go.Proofs.Ytceocpohdckkoaa.Bx
