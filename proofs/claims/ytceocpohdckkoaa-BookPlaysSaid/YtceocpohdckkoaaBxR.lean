/- Books: the reference's Put. -/
import Derived.Test.YtceocpohdckkoaaBxQ
namespace Go.Proofs.Ytceocpohdckkoaa.Bx
open Go.RowKit Mem Bits
set_option linter.unusedSimpArgs false
set_option linter.unusedVariables false
set_option maxRecDepth 100000

theorem RrU.own {base : Nat} {A : World} {v : Value} {us : List Value} (ho : A.ownsRow base tR 1 v us.length us) : RrU A v us := by
  rcases own_cell ho with ⟨h1, h2, _⟩ | ⟨g, cap, h1, _, h2, _, _, h4⟩
  · have : us = [] := List.eq_nil_of_length_eq_zero (by omega)
    subst this
    exact ⟨none, 0, by rw [h1]; rfl, Nat.le_refl _, .inl rfl⟩
  · obtain ⟨cur, hb⟩ := own_blk ho g (by rw [h1]; rfl)
    exact ⟨_, cap, h1, by omega, .inr ⟨g, 0, cur, rfl, hb, fun i hi => by rw [Nat.zero_add]; exact h4 i hi⟩⟩
theorem take_drop_snoc {α : Type} (us : List α) (i s : Nat) (hi : i < us.length) (hs : s ≤ i) : (us.take (i + 1)).drop s = (us.take i).drop s ++ [us[i]] := by
  rw [List.take_succ_eq_append_getElem hi, List.drop_append_of_le_length (by rw [List.length_take]; omega)]

set_option maxHeartbeats 8000000 in
theorem rput_calls {P : Value → List Int → Prop} (hPs : ∀ u xs, P u xs → ∃ a n c, u = .slice a n c) {w : World} (base : Int) (v : Value) (rows : List (List Int)) (h : RP P w v rows) (u : Value) (xs : List Int) (hu : IntsR w u xs) (hpu : P u xs)
    (hxn : xs.length ≤ 140737488351232) (hb0 : 0 ≤ base) (hb1 : base ≤ 549755813888) (hl : rows.length ≤ 64) :
    Calls Try.prog 30 #[.agg #[.int .i64 base, v], u] w (RPutP P w (putS base rows xs)) := by
  obtain ⟨xa, xn, xc, rfl⟩ := hPs u xs hpu
  have H := Lib.hid h
  have HPU := Lib.hid hpu
  have hl' : (rows.length : Int) ≤ 64 := by omega
  have hwr : IntKind.i64.wrap (base + (rows.length : Int)) = base + (rows.length : Int) := IntWalk.i64_in _ (by omega)
  have MC := Lib.hid (fun w' (k : Kept w w') => rmay_calls xs _ w' (hu.kept k) hxn)
  obtain ⟨va, vc, rfl, hvc⟩ := h.slice
  have HB2 := Lib.hid ((Blk.new w #[.int .i64 base, .slice va rows.length vc] 57).alloc (.cells #[.int .i64 0, .slice none 0 0] 57))
  have HB4 := Lib.hid (Blk.new (w.alloc (.cells #[.int .i64 base, .slice va rows.length vc] 57)) #[.int .i64 0, .slice none 0 0] 57)
  have HM0 := Lib.hid (((Mod.refl w []).alloc (.cells #[.int .i64 base, .slice va rows.length vc] 57)).alloc (.cells #[.int .i64 0, .slice none 0 0] 57))
  rw [World.size_alloc] at HB4
  clear h hu hpu
  by_cases hm : mayB xs = true
  case neg =>
    have hm' : mayB xs = false := by simpa using hm
    have hr := Lib.hid (show putS base rows xs = (1, base, rows) by unfold putS; rw [if_neg hm])
    rw [hm'] at MC
    clear hm hm'
    go_enter Try.func30, Try.ntmps30
    go_wp2_with fail
    (with_reducible refine (MC.out _ (Kept.mod HM0.out)).mono ?_)
    rintro e w1 ⟨rfl, hm1⟩
    have HM1 := Lib.hid (HM0.out.trans0 hm1)
    have b2 := HB2.out.mod hm1 (by simp)
    have b4 := HB4.out.mod hm1 (by simp)
    have c20 := b2.cell 0
    have c21 := b2.cell 1
    have f0 := b4.free 0
    have f1 := b4.free 1
    have c40 := b4.cell 0
    have c41 := b4.cell 1
    have HB4' := Lib.hid b4
    clear hm1 b2 b4 HB2 HB4 HM0
    go_wp2_with fail
    have q := two_cells HB4'.out (.int .i64 base) (.slice va rows.length vc)
    have q0 := q.cell 0
    have q1 := q.cell 1
    refine bodyPost_ret (v := .tuple #[.agg #[.int .i64 base, .slice va rows.length vc], .int .i64 1]) (by simp [results, Try.results30, go_sem, q0, q1]) rfl ?_
    rw [hr.out]
    have hmm := (HM1.out.setCell (p := ⟨w.heap.size + 1, 0, none⟩) (.inr (by simp)) (.int .i64 base)).setCell (p := ⟨w.heap.size + 1, 1, none⟩) (.inr (by simp)) (.slice va rows.length vc)
    exact ⟨hmm, _, rfl, H.out.mod hmm⟩
  rw [hm] at MC
  by_cases hfull : 549755813888 ≤ base + (rows.length : Int)
  · have hr := Lib.hid (show putS base rows xs = (2, base, rows) by unfold putS; rw [if_pos hm, if_pos hfull])
    have hfull' : ¬ base + (rows.length : Int) < 549755813888 := by omega
    go_enter Try.func30, Try.ntmps30
    go_wp2_with fail
    (with_reducible refine (MC.out _ (Kept.mod HM0.out)).mono ?_)
    rintro e w1 ⟨rfl, hm1⟩
    have HM1 := Lib.hid (HM0.out.trans0 hm1)
    have b2 := HB2.out.mod hm1 (by simp)
    have b4 := HB4.out.mod hm1 (by simp)
    have c20 := b2.cell 0
    have c21 := b2.cell 1
    have f0 := b4.free 0
    have f1 := b4.free 1
    have c40 := b4.cell 0
    have c41 := b4.cell 1
    have HB4' := Lib.hid b4
    clear hm1 b2 b4 HB2 HB4 HM0
    go_wp2_with fail
    have q := two_cells HB4'.out (.int .i64 base) (.slice va rows.length vc)
    have q0 := q.cell 0
    have q1 := q.cell 1
    refine bodyPost_ret (v := .tuple #[.agg #[.int .i64 base, .slice va rows.length vc], .int .i64 2]) (by simp [results, Try.results30, go_sem, q0, q1]) rfl ?_
    rw [hr.out]
    have hmm := (HM1.out.setCell (p := ⟨w.heap.size + 1, 0, none⟩) (.inr (by simp)) (.int .i64 base)).setCell (p := ⟨w.heap.size + 1, 1, none⟩) (.inr (by simp)) (.slice va rows.length vc)
    exact ⟨hmm, _, rfl, H.out.mod hmm⟩
  have hfull' : base + (rows.length : Int) < 549755813888 := by omega
  obtain ⟨us, ⟨va', vc', hve, hcap, hcell⟩, hp⟩ := H.out
  have hlen := all2_len hp
  injection hve with e1 e2 e3
  subst e1 e3
  clear e2
  obtain ⟨L, hL⟩ : ∃ L, us.length = L := ⟨_, rfl⟩
  have HL := Lib.hid hL
  have HLR := Lib.hid (show rows.length = L by omega)
  obtain ⟨sk, hsk⟩ : ∃ sk : Nat, (if 64 < L + 1 then 1 else 0) = sk := ⟨_, rfl⟩
  have hsk1 : L = 64 → sk = 1 := fun h => by rw [← hsk, if_pos (by omega)]
  have hsk0 : L ≠ 64 → sk = 0 := fun h => by rw [← hsk, if_neg (by rw [← hlen] at hl; omega)]
  have hr := Lib.hid (show putS base rows xs = (0, base + (sk : Int), (rows ++ [xs]).drop sk) by
    unfold putS
    rw [if_pos hm, if_neg hfull, ← hsk, ← hlen, hL]
    by_cases h64 : 64 < L + 1
    · rw [if_pos h64, if_pos h64]; rfl
    · rw [if_neg h64, if_neg h64]; simp)
  have HP := Lib.hid hp
  have HC := Lib.hid hcell
  have HSK1 := Lib.hid hsk1
  have HSK0 := Lib.hid hsk0
  have hskL : sk ≤ L := by by_cases h : L = 64; · have := hsk1 h; omega
                           · have := hsk0 h; omega
  have hsk2 : sk ≤ 1 := by by_cases h : L = 64; · have := hsk1 h; omega
                           · have := hsk0 h; omega
  rw [HLR.out] at hl' hwr hfull' HB2 HM0 H hvc hl
  rw [show (rows.length : Nat) = L from HLR.out] at HB4
  rw [HLR.out]
  clear hfull hcap hcell hp hlen hL hsk hsk1 hsk0
  have hLn : (L : Int) ≤ vc := by omega
  obtain ⟨i0, hinf, hz0, hz1, hz2⟩ := info_parts info_rr
  go_enter Try.func30, Try.ntmps30
  go_wp2_with fail
  (with_reducible refine (MC.out _ (Kept.mod HM0.out)).mono ?_)
  rintro e w1 ⟨rfl, hm1⟩
  have HM1 := Lib.hid (HM0.out.trans0 hm1)
  have HC2 := Lib.hid (HB2.out.mod hm1 (by simp))
  have HC4 := Lib.hid (HB4.out.mod hm1 (by simp))
  have c20 := HC2.out.cell 0
  have c21 := HC2.out.cell 1
  have hsz := hm1.size
  simp only [World.size_alloc] at hsz
  clear hm1 HB2 HB4 HM0 MC
  go_wp2_with fail
  go_loopw [6, 7, 8] (fun vl vb vi wr => ∃ (i : Nat) (la : Option Addr) (lc : Nat), vi = .int .i64 (i : Int) ∧ vl = .slice la (i - sk) lc ∧ vb = .int .i64 (base + ((min i sk : Nat) : Int)) ∧ i ≤ L ∧ Mod w wr [] ∧ Blk wr w.heap.size #[.int .i64 base, .slice va L vc] 57 ∧ Blk wr (w.heap.size + 1) #[.int .i64 0, .slice none 0 0] 57 ∧ wr.ownsRow (w.heap.size + 2) tR 1 (.slice la (i - sk) lc) (i - sk) ((us.take i).drop sk)) (fun _ _ vi _ => L + 1 - (intOf vi).toNat)
  case atStart => exact ⟨0, none, 0, rfl, by rw [Nat.zero_sub], by simp, Nat.zero_le _, HM1.out, HC2.out, HC4.out, by rw [Nat.zero_sub]; simp only [List.take_zero, List.drop_nil]; exact World.ownsRow_nil _ _ _ _⟩
  case round =>
    obtain ⟨i, la, lc, rfl, rfl, rfl, hi, hm, hb2, hb4, hown⟩ := hrel
    have HM := Lib.hid hm
    have HC2' := Lib.hid hb2
    have HC4' := Lib.hid hb4
    have HO := Lib.hid hown
    have d20 := hb2.cell 0
    have d21 := hb2.cell 1
    have hszr := hm.size
    have hl4 := hb4.lt
    clear hm hb2 hb4 hown c20 c21 HM1 HC2 HC4
    by_cases hlt : i < L
    · have hlt' : (i : Int) < L := by omega
      by_cases hskip : i = 0 ∧ L = 64
      · obtain ⟨rfl, h64⟩ := hskip
        have hs1 : sk = 1 := HSK1.out h64
        have hb64 : ((L : Int) == 64) = true := by rw [h64]; rfl
        subst hs1
        clear h64 hskL hsk2
        go_wp2_with fail
        go_roundw
        case rel => exact ⟨1, la, lc, by go_num, rfl, by simp, by omega, HM.out, HC2'.out, HC4'.out, by simpa using HO.out⟩
        case measure => simp [intOf]
      · have hski : sk ≤ i := by
          by_cases h : L = 64
          · have := HSK1.out h; omega
          · have := HSK0.out h; omega
        have hiu : i < us.length := by have := HL.out; omega
        obtain ⟨b, off, cs, hva, hbb, hcc⟩ := HC.out.resolve_left (fun e => by rw [e] at hiu; simp at hiu)
        have hc := (Kept.mod HM.out).cell (hcc i hiu)
        obtain ⟨ua, un, uc, hu⟩ := hPs _ _ (all2_get HP.out i hiu (by have := HLR.out; omega))
        have HTD := Lib.hid (take_drop_snoc us i sk hiu hski)
        have HIX := Lib.hid (show i + 1 - sk = i - sk + 1 by omega)
        have HMN := Lib.hid (show min (i + 1) sk = min i sk by omega)
        rw [hu] at hc HTD
        subst hva
        clear hcc hbb hu
        by_cases hz : i = 0
        · have hb0' : ((i : Int) == 0) = true := by rw [hz]; rfl
          have hb64 : ((L : Int) == 64) = false := by
            have : L ≠ 64 := fun h => hskip ⟨hz, h⟩
            rw [beq_eq_false_iff_ne]; omega
          clear hz hskip
          have HN2 := Lib.hid (Blk.new wr #[.slice ua un uc] 26)
          have HO2 := Lib.hid (HO.out.alloc (.cells #[.slice ua un uc] 26))
          have HD2 := Lib.hid (HC2'.out.alloc (.cells #[.slice ua un uc] 26))
          have HD4 := Lib.hid (HC4'.out.alloc (.cells #[.slice ua un uc] 26))
          have HMA := Lib.hid (HM.out.alloc (.cells #[.slice ua un uc] 26))
          go_wp2_with (at_builtin; refine wpList_append_own _ rfl _ _ 55 rfl (w.heap.size + 2) 26 i0 _ 1 24 Try.underlying55 hinf hz0 hz1 hz2 rfl (by decide) _ _ _ rfl HO2.out ⟨wr.heap.size, 0, none⟩ 1 1 [.slice ua un uc] rfl rfl (new_one HN2.out) (by simp [Value.oneCell']) (by unfold maxLen; omega) (by omega) (by simp; omega) ?_; intro v' w3 hown' hgrow hnil; clear hnil; have HO3 := Lib.hid hown'; have HG3 := Lib.hid hgrow; clear hown' hgrow; obtain ⟨a3, c3, hv3⟩ := Rw.own_slice HO3.out; subst hv3)
          have HE2 := Lib.hid (Rw.blk_grown HD2.out HG3.out (fun e => by obtain ⟨cur, hb⟩ := own_blk HO2.out _ e.symm; exact blk_ne hb HD2.out (by decide) rfl))
          have HE4 := Lib.hid (Rw.blk_grown HD4.out HG3.out (fun e => by obtain ⟨cur, hb⟩ := own_blk HO2.out _ e.symm; exact blk_ne hb HD4.out (by decide) rfl))
          have HM3 := Lib.hid (HMA.out.grown HG3.out (fun k hk => .inr (by have := own_ge HO2.out k hk; omega)))
          go_roundw
          case rel =>
            refine ⟨i + 1, a3, c3, by go_num, ?_, ?_, by omega, HM3.out, HE2.out, HE4.out, ?_⟩
            · rw [HIX.out]
            · rw [HMN.out, Nat.min_eq_right hski]
            · rw [HIX.out, HTD.out]; exact HO3.out
          case measure => simp [intOf]; omega
        · have hb0' : ((i : Int) == 0) = false := by simp; omega
          clear hz hskip
          have HN2 := Lib.hid (Blk.new wr #[.slice ua un uc] 26)
          have HO2 := Lib.hid (HO.out.alloc (.cells #[.slice ua un uc] 26))
          have HD2 := Lib.hid (HC2'.out.alloc (.cells #[.slice ua un uc] 26))
          have HD4 := Lib.hid (HC4'.out.alloc (.cells #[.slice ua un uc] 26))
          have HMA := Lib.hid (HM.out.alloc (.cells #[.slice ua un uc] 26))
          go_wp2_with (at_builtin; refine wpList_append_own _ rfl _ _ 55 rfl (w.heap.size + 2) 26 i0 _ 1 24 Try.underlying55 hinf hz0 hz1 hz2 rfl (by decide) _ _ _ rfl HO2.out ⟨wr.heap.size, 0, none⟩ 1 1 [.slice ua un uc] rfl rfl (new_one HN2.out) (by simp [Value.oneCell']) (by unfold maxLen; omega) (by omega) (by simp; omega) ?_; intro v' w3 hown' hgrow hnil; clear hnil; have HO3 := Lib.hid hown'; have HG3 := Lib.hid hgrow; clear hown' hgrow; obtain ⟨a3, c3, hv3⟩ := Rw.own_slice HO3.out; subst hv3)
          have HE2 := Lib.hid (Rw.blk_grown HD2.out HG3.out (fun e => by obtain ⟨cur, hb⟩ := own_blk HO2.out _ e.symm; exact blk_ne hb HD2.out (by decide) rfl))
          have HE4 := Lib.hid (Rw.blk_grown HD4.out HG3.out (fun e => by obtain ⟨cur, hb⟩ := own_blk HO2.out _ e.symm; exact blk_ne hb HD4.out (by decide) rfl))
          have HM3 := Lib.hid (HMA.out.grown HG3.out (fun k hk => .inr (by have := own_ge HO2.out k hk; omega)))
          go_roundw
          case rel =>
            refine ⟨i + 1, a3, c3, by go_num, ?_, ?_, by omega, HM3.out, HE2.out, HE4.out, ?_⟩
            · rw [HIX.out]
            · rw [HMN.out, Nat.min_eq_right hski]
            · rw [HIX.out, HTD.out]; exact HO3.out
          case measure => simp [intOf]; omega
    · obtain rfl : i = L := by omega
      have hii : (i : Int) ≤ i := by omega
      have HN2 := Lib.hid (Blk.new wr #[.slice xa xn xc] 26)
      have HO2 := Lib.hid (HO.out.alloc (.cells #[.slice xa xn xc] 26))
      have HD2 := Lib.hid (HC2'.out.alloc (.cells #[.slice xa xn xc] 26))
      have HD4 := Lib.hid (HC4'.out.alloc (.cells #[.slice xa xn xc] 26))
      have HMA := Lib.hid (HM.out.alloc (.cells #[.slice xa xn xc] 26))
      go_wp2_with (at_builtin; refine wpList_append_own _ rfl _ _ 55 rfl (w.heap.size + 2) 26 i0 _ 1 24 Try.underlying55 hinf hz0 hz1 hz2 rfl (by decide) _ _ _ rfl HO2.out ⟨wr.heap.size, 0, none⟩ 1 1 [.slice xa xn xc] rfl rfl (new_one HN2.out) (by simp [Value.oneCell']) (by unfold maxLen; omega) (by omega) (by simp; omega) ?_; intro v' w3 hown' hgrow hnil; clear hnil; have HO3 := Lib.hid hown'; have HG3 := Lib.hid hgrow; clear hown' hgrow; obtain ⟨a3, c3, hv3⟩ := Rw.own_slice HO3.out; subst hv3; have HE2 := Lib.hid (Rw.blk_grown HD2.out HG3.out (fun e => by obtain ⟨cur, hb⟩ := own_blk HO2.out _ e.symm; exact blk_ne hb HD2.out (by decide) rfl)); have HE4 := Lib.hid (Rw.blk_grown HD4.out HG3.out (fun e => by obtain ⟨cur, hb⟩ := own_blk HO2.out _ e.symm; exact blk_ne hb HD4.out (by decide) rfl)); have HM3 := Lib.hid (HMA.out.grown HG3.out (fun k hk => .inr (by have := own_ge HO2.out k hk; omega))); have k0 := HE4.out.free 0; have k1 := HE4.out.free 1; have k2 := HE4.out.cell 0; have k3 := HE4.out.cell 1)
      have q := two_cells HE4.out (.int .i64 (base + (sk : Int))) (.slice a3 (i - sk + 1) c3)
      have q0 := q.cell 0
      have q1 := q.cell 1
      refine bodyPost_ret (v := .tuple #[.agg #[.int .i64 (base + (sk : Int)), .slice a3 (i - sk + 1) c3], .int .i64 0]) (by simp [results, Try.results30, go_sem, q0, q1]) rfl ?_
      rw [hr.out]
      refine ⟨(HM3.out.setCell (p := ⟨w.heap.size + 1, 0, none⟩) (.inr (by simp)) (.int .i64 (base + (sk : Int)))).setCell (p := ⟨w.heap.size + 1, 1, none⟩) (.inr (by simp)) (.slice a3 (i - sk + 1) c3), _, rfl, ?_⟩
      refine RP.kept (A := w3) ⟨(us.take i).drop sk ++ [.slice xa xn xc], RrU.own (base := w.heap.size + 2) ?_, ?_⟩ ?_
      · rw [List.length_append, List.length_drop, List.length_take, HL.out, Nat.min_self]
        exact HO3.out
      · rw [List.drop_append_of_le_length (by rw [HLR.out]; exact hskL), List.take_of_length_le (by rw [HL.out]; omega)]
        exact all2_snoc HPU.out (all2_drop HP.out sk)
      · rintro k cs t hk rfl
        exact (hk.far (p := ⟨w.heap.size + 1, 0, none⟩) (blk_ne hk HE4.out (by decide)) _).far (p := ⟨w.heap.size + 1, 1, none⟩) (blk_ne hk HE4.out (by decide)) _
end Go.Proofs.Ytceocpohdckkoaa.Bx
