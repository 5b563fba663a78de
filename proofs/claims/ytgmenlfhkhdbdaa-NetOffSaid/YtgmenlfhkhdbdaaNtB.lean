/- The law NetOff. -/
import Derived.Test.YtgmenlfhkhdbdaaNt9
import Derived.Test.YtgmenlfhkhdbdaaOp2
namespace Go.Proofs.Ytgmenlfhkhdbdaa.Nt
open Go.RowKit Mem Nm Ra
open Ag (It AgW AgT Keep insI woI dueI leftI hasI AddP ItAt soon)
set_option linter.unusedSimpArgs false
set_option linter.unusedVariables false
set_option maxRecDepth 100000

theorem norm7 (x : Int) : ∃ A : Nat, (wrap64 (x.tmod 7 + 7)).tmod 7 = (A : Int) ∧ A ≤ 6 := by
  have h1 := Int.tmod_lt_of_pos x (b := 7) (by omega)
  have h2 := Int.lt_tmod_of_pos x (b := 7) (by omega)
  rw [IntWalk.wrap64_in (x.tmod 7 + 7) (by omega)]
  have h3 := Int.tmod_lt_of_pos (x.tmod 7 + 7) (b := 7) (by omega)
  have h4 := Int.tmod_nonneg (7 : Int) (a := x.tmod 7 + 7) (by omega)
  exact ⟨((x.tmod 7 + 7).tmod 7).toNat, by omega, by omega⟩
/-- Two are cut off. -/
def C1 (A B : Nat) : Nat → Nat → Bool := cutC noC A B true
theorem C1_eq {A B : Nat} (hA : A ≤ 6) (hB : B ≤ 6) (h : A ≠ B) : C1 A B = setC (setC noC A B true) B A true := by
  unfold C1 cutC
  rw [if_pos (by
    rw [show ndB (A : Int) = true from inB_t.2 (by omega), show ndB (B : Int) = true from inB_t.2 (by omega)]
    simp; omega), Int.toNat_natCast, Int.toNat_natCast]
theorem C1_iff {A B : Nat} (hA : A ≤ 6) (hB : B ≤ 6) (h : A ≠ B) (f d : Nat) : C1 A B f d = decide ((f = A ∧ d = B) ∨ (f = B ∧ d = A)) := by
  rw [C1_eq hA hB h]
  unfold setC
  by_cases h1 : f = B ∧ d = A
  · rw [if_pos h1, decide_eq_true (.inr h1)]
  · rw [if_neg h1]
    by_cases h2 : f = A ∧ d = B
    · rw [if_pos h2, decide_eq_true (.inl h2)]
    · rw [if_neg h2, decide_eq_false (by rintro (h | h); exact h2 h; exact h1 h)]
theorem cut_C1 {A B : Nat} (hA : A ≤ 6) (hB : B ≤ 6) (h : A ≠ B) {C : Nat → Nat → Bool} (hC : C = noC ∨ C = C1 A B) : cutC C A B true = C1 A B := by
  rcases hC with rfl | rfl
  · rfl
  · unfold cutC
    rw [if_pos (by
      rw [show ndB (A : Int) = true from inB_t.2 (by omega), show ndB (B : Int) = true from inB_t.2 (by omega)]
      simp; omega), Int.toNat_natCast, Int.toNat_natCast, C1_eq hA hB h]
    funext i j
    unfold setC
    by_cases h1 : i = B ∧ j = A
    · rw [if_pos h1, if_pos h1]
    · rw [if_neg h1, if_neg h1]
      by_cases h2 : i = A ∧ j = B
      · rw [if_pos h2, if_pos h2]
      · rw [if_neg h2, if_neg h2]
theorem cut_off {A B : Nat} (hA : A ≤ 6) (hB : B ≤ 6) (h : A ≠ B) : cutC (C1 A B) B A false A B = false := by
  unfold cutC
  rw [if_pos (by
    rw [show ndB (A : Int) = true from inB_t.2 (by omega), show ndB (B : Int) = true from inB_t.2 (by omega)]
    simp; omega), Int.toNat_natCast, Int.toNat_natCast]
  unfold setC
  rw [if_pos ⟨rfl, rfl⟩]
/-- What was sent, and how many of them will be heard. -/
structure Sent (C : Nat → Nat → Bool) (last : Int) (S : List It) (M : Int → Option Ms) (want : Nat) : Prop where
  one : ∀ s ∈ S, s.1 = 1
  rg : ∀ s ∈ S, 1 ≤ s.2.1 ∧ s.2.1 ≤ last
  cnt : (outM C M S).length = want
theorem outM_congr {C : Nat → Nat → Bool} {M M' : Int → Option Ms} {S : List It} (h : ∀ s ∈ S, M s.2.1 = M' s.2.1) : outM C M S = outM C M' S := by
  unfold outM
  induction S with
  | nil => rfl
  | cons a S ih => rw [List.filterMap_cons, List.filterMap_cons, h a (by simp), ih (fun s hs => h s (by simp [hs]))]
theorem Sent.ins {C : Nat → Nat → Bool} {last : Int} {S : List It} {M : Int → Option Ms} {want : Nat} (h : Sent C last S M want) : insI S ((1 : Int), last + 1, (0 : Int)) = S ++ [((1 : Int), last + 1, (0 : Int))] := by
  unfold insI
  have ht : ∀ s ∈ S, soon s ((1 : Int), last + 1, (0 : Int)) = true := fun s hs => by
    rw [Ag.soon_iff]
    have := h.rg s hs
    exact .inr ⟨h.one s hs, by show s.2.1 < last + 1; omega⟩
  rw [show S.takeWhile (fun s => soon s ((1 : Int), last + 1, (0 : Int))) = S from by
    clear h
    induction S with
    | nil => rfl
    | cons a S ih => rw [List.takeWhile_cons, if_pos (ht a (by simp)), ih (fun s hs => ht s (by simp [hs]))],
    show S.dropWhile (fun s => soon s ((1 : Int), last + 1, (0 : Int))) = [] from by
    clear h
    induction S with
    | nil => rfl
    | cons a S ih => rw [List.dropWhile_cons, if_pos (ht a (by simp)), ih (fun s hs => ht s (by simp [hs]))]]
theorem Sent.step {C : Nat → Nat → Bool} {last : Int} {S : List It} {M : Int → Option Ms} {want : Nat} (h : Sent C last S M want) (h0 : 0 ≤ last) (m : Ms) : Sent C (last + 1) (insI S ((1 : Int), last + 1, (0 : Int))) (setM M (last + 1) m) (if C m.frm.toNat m.dst.toNat = true then want else want + 1) := by
  rw [h.ins]
  refine ⟨fun s hs => ?_, fun s hs => ?_, ?_⟩
  · rcases List.mem_append.1 hs with hs | hs
    · exact h.one s hs
    · rw [List.mem_singleton] at hs; subst hs; rfl
  · rcases List.mem_append.1 hs with hs | hs
    · have := h.rg s hs; omega
    · rw [List.mem_singleton] at hs; subst hs; show 1 ≤ last + 1 ∧ last + 1 ≤ last + 1; omega
  · rw [outM_snoc C (setM M (last + 1) m) S _ m (by unfold setM; rw [if_pos rfl])]
    have hc : outM C (setM M (last + 1) m) S = outM C M S := outM_congr (fun s hs => by
      unfold setM
      rw [if_neg (by have := h.rg s hs; omega)])
    rw [hc]
    by_cases hh : C m.frm.toNat m.dst.toNat = true
    · rw [if_pos hh, if_pos hh, h.cnt]
    · rw [if_neg hh, if_neg hh, List.length_append, h.cnt]; rfl
theorem one_due {S : List It} (h : ∀ s ∈ S, s.1 = 1) : dueI S 1 = S ∧ leftI S 1 = [] := by
  unfold dueI leftI
  induction S with
  | nil => exact ⟨rfl, rfl⟩
  | cons a S ih =>
    obtain ⟨h1, h2⟩ := ih (fun s hs => h s (by simp [hs]))
    have h0 := h a (by simp)
    rw [List.takeWhile_cons, List.dropWhile_cons, if_pos (by rw [h0]; decide), if_pos (by rw [h0]; decide), h1, h2]
    exact ⟨rfl, rfl⟩
theorem SendP.bad {w0 : World} {g ag mb : Nat} {last : Int} {S : List It} {n : Nat} {M : Int → Option Ms} {C : Nat → Nat → Bool} {now : Int} {m : Ms} {delay : Int} {w : World} {e : Ending} {w' : World} (h : SendP w0 g ag mb last S n M C now m delay w e w')
    (c3 : checkB m = false) : e = .returned (.tuple #[.int .i64 0, .int .i64 1]) ∧ NetW w0 w' g ag mb last S n M C ∧ KpN w w' := by
  unfold SendP at h
  rw [if_neg (by rw [c3]; simp)] at h
  exact h
theorem SendP.off {w0 : World} {g ag mb : Nat} {last : Int} {S : List It} {n : Nat} {M : Int → Option Ms} {C : Nat → Nat → Bool} {now : Int} {m : Ms} {delay : Int} {w : World} {e : Ending} {w' : World} (h : SendP w0 g ag mb last S n M C now m delay w e w')
    (c1 : ixB now = true) (c2 : ixB delay = true) (c3 : checkB m = true) (c4 : C m.frm.toNat m.dst.toNat = true) : e = .returned (.tuple #[.int .i64 0, .int .i64 0]) ∧ NetW w0 w' g ag mb last S n M C ∧ KpN w w' := by
  unfold SendP at h
  rw [if_pos (by rw [c1, c2, c3]; rfl), if_pos c4] at h
  exact h
theorem outM_mem {C : Nat → Nat → Bool} {M : Int → Option Ms} {S : List It} {m : Ms} (h : m ∈ outM C M S) : ∃ s ∈ S, M s.2.1 = some m ∧ C m.frm.toNat m.dst.toNat = false := by
  unfold outM at h
  obtain ⟨s, hs, e⟩ := List.mem_filterMap.1 h
  refine ⟨s, hs, ?_⟩
  cases hM : M s.2.1 with
  | none => rw [hM] at e; cases e
  | some m' =>
    rw [hM] at e
    by_cases hc : C m'.frm.toNat m'.dst.toNat = true
    · simp only [hc] at e; cases e
    · simp only [if_neg hc] at e
      injection e with e
      subst e
      exact ⟨rfl, by simpa using hc⟩
set_option maxHeartbeats 32000000 in
theorem netOff_calls (w : World) (a : Int) (ha : (Lit.int .i64 a).wf = true) (b : Int) (hb : (Lit.int .i64 b).wf = true) (v : Value) (hv : Open.Prs w v) :
    Calls Try.prog 4 #[.int .i64 a, .int .i64 b, v] w fun e w' => e = .returned (.bool true) ∧ Below w.heap.size w w' := by
  obtain ⟨l, ad, acap, rfl, hal, hac⟩ := Open.prs_rd hv
  have NC := Lib.hid (nnew_calls w)
  have AW := Lib.hid (fun w => awake_calls w)
  have HAC := Lib.hid hac
  have hal' : (l.length : Int) ≤ 140737488351232 := by omega
  obtain ⟨A, hA, hA6⟩ := norm7 a
  obtain ⟨B, hB, hB6⟩ := norm7 b
  clear hac hv
  by_cases hAB : A = B
  · have hAB' : (A : Int) = (B : Int) := by omega
    have hABb : ((A : Int) == (B : Int)) = true := by rw [beq_iff_eq]; exact hAB'
    go_enter Try.func4, Try.ntmps4
    go_wp2_with fail
    (with_reducible refine (NC.out).mono ?_)
    rintro e w1 ⟨g, ag, mb, rfl, _, hm⟩
    have HM1 := Lib.hid hm
    clear hm NC
    go_wp2_with fail
    (with_reducible refine (AW.out _).mono ?_)
    rintro e w2 ⟨rfl, hm⟩
    have HM2 := Lib.hid (HM1.out.trans0 hm)
    clear hm HM1
    go_wp2_with fail
    (with_reducible refine (AW.out _).mono ?_)
    rintro e w3 ⟨rfl, hm⟩
    have HM3 := Lib.hid (HM2.out.trans0 hm)
    clear hm HM2
    go_wp2_with fail
    go_ret
    exact ⟨rfl, HM3.out.below0⟩
  have hABi : (A : Int) ≠ (B : Int) := by omega
  have hABb : ((A : Int) == (B : Int)) = false := by rw [beq_eq_false_iff_ne]; exact hABi
  by_cases hbig : 100 < l.length
  · have hbig' : (100 : Int) < l.length := by omega
    go_enter Try.func4, Try.ntmps4
    go_wp2_with fail
    (with_reducible refine (NC.out).mono ?_)
    rintro e w1 ⟨g, ag, mb, rfl, _, hm⟩
    have HM1 := Lib.hid hm
    clear hm NC
    go_wp2_with fail
    (with_reducible refine (AW.out _).mono ?_)
    rintro e w2 ⟨rfl, hm⟩
    have HM2 := Lib.hid (HM1.out.trans0 hm)
    clear hm HM1
    go_wp2_with fail
    (with_reducible refine (AW.out _).mono ?_)
    rintro e w3 ⟨rfl, hm⟩
    have HM3 := Lib.hid (HM2.out.trans0 hm)
    clear hm HM2
    go_wp2_with fail
    go_ret
    exact ⟨rfl, HM3.out.below0⟩
  have hb1 : (l.length : Int) ≤ 100 := by omega
  have HC1 := Lib.hid (fun f d => C1_iff hA6 hB6 hAB f d)
  have HCC := Lib.hid (fun C (hC : C = noC ∨ C = C1 A B) => cut_C1 hA6 hB6 hAB hC)
  have HCO := Lib.hid (cut_off hA6 hB6 hAB)
  generalize C1 A B = D1 at *
  go_enter Try.func4, Try.ntmps4
  go_wp2_with fail
  (with_reducible refine (NC.out).mono ?_)
  rintro e w1 ⟨g, ag, mb, rfl, hn1', _⟩
  have HN1 := Lib.hid hn1'
  clear hn1' NC
  go_wp2_with fail
  (with_reducible refine (AW.out _).mono ?_)
  rintro e w2 ⟨rfl, hm2⟩
  have HN2 := Lib.hid (HN1.out.mod hm2)
  clear hm2 HN1 AW
  go_wp2_with fail
  obtain ⟨wo, rfl⟩ : ∃ wo, wo = w2 := ⟨_, rfl⟩
  go_loopw [8, 9] (fun vw vi wr => ∃ (i want n : Nat) (last : Int) (S : List It) (M : Int → Option Ms) (C : Nat → Nat → Bool), vw = .int .i64 (want : Int) ∧ vi = .int .i64 (i : Int) ∧ i ≤ l.length ∧ n ≤ i ∧ want ≤ i ∧ (0 ≤ last ∧ last ≤ (i : Int)) ∧ S.length ≤ i ∧ NetW w wr g ag mb last S n M C ∧ Hid ((C = noC ∨ C = D1) ∧ Sent D1 last S M want)) (fun _ vi _ => l.length + 1 - (intOf vi).toNat)
  case atStart => exact ⟨0, 0, 0, 0, [], fun _ => none, noC, rfl, rfl, Nat.zero_le _, by omega, by omega, by omega, Nat.le_refl _, HN2.out, Lib.hid ⟨.inl rfl, ⟨by simp, by simp, rfl⟩⟩⟩
  case round =>
    obtain ⟨i, want, n, last, S, M, C, rfl, rfl, hi, hni, hwi, ⟨hl0, hl1⟩, hsl, hn, HS⟩ := hrel
    have HN := Lib.hid hn
    clear hn HN2
    by_cases hlt : i < l.length
    · have hlt' : (i : Int) < l.length := by omega
      obtain ⟨bb, off, rfl, hc⟩ := HAC.out.resolve_left (fun h => by rw [h] at hlt; simp at hlt)
      obtain ⟨c0, c1⟩ := hc i hlt
      replace c0 := Ra.keepC HN.out.md c0
      replace c1 := Ra.keepC HN.out.md c1
      clear hc
      generalize (l[i]'hlt).1 = px at *
      generalize (l[i]'hlt).2 = py at *
      obtain ⟨X, hX, hX6⟩ := norm7 px
      obtain ⟨Y, hY, hY6⟩ := norm7 py
      go_wp2_with fail
      go_quiet (fail)
      have HNq := Lib.hid (HN.out.mod ((Mod.refl wr []).drewN nq))
      clear HN c0 c1
      generalize World.drewN _ nq = wq at *
      have hmt : (l.length : Int).tdiv 2 = (l.length : Int) / 2 := Int.tdiv_eq_ediv_of_nonneg (by omega)
      by_cases hmid : i = l.length / 2
      · have hmi : (i : Int) = (l.length : Int) / 2 := by omega
        have CC := Lib.hid (cut_calls w wq g ag mb last S n M C HNq.out (A : Int) (B : Int) true)
        rw [HCC.out C HS.out.1] at CC
        go_wp2_with fail
        (with_reducible refine (CC.out).mono ?_)
        rintro e wc ⟨rfl, hnc, _⟩
        have HNc := Lib.hid hnc
        obtain ⟨C', hC'⟩ : ∃ C', C' = D1 := ⟨_, rfl⟩
        rw [← hC'] at HNc
        have HC' : Hid (C' = noC ∨ C' = D1) := Lib.hid (.inr hC')
        clear hnc CC hC' HNq hmi hmid
        have AC := Lib.hid (fun W => ask_calls (X : Int) (Y : Int) (i : Int) W)
        go_wp2_with fail
        (with_reducible refine (AC.out _).mono ?_)
        rintro e w3 ⟨rfl, hm3⟩
        have HN3 := Lib.hid (HNc.out.mod hm3)
        clear hm3 HNc AC
        have SC := Lib.hid (asend_calls w w3 g ag mb _ _ _ _ _ HN3.out (by omega) (by omega) 0 (X : Int) (Y : Int) (i : Int) 1)
        go_wp2_with fail
        (with_reducible refine (SC.out).mono ?_)
        rintro e w4 hsp
        have hck := ask_check (X : Int) (Y : Int) (i : Int) (by omega) (by omega) (by omega)
        have hD1XY : D1 (askM (X : Int) (Y : Int) (i : Int)).frm.toNat (askM (X : Int) (Y : Int) (i : Int)).dst.toNat = decide ((X = A ∧ Y = B) ∨ (X = B ∧ Y = A)) := by rw [← HC1.out X Y]; rfl
        clear SC HN3
        by_cases hXY : X = Y
        · have hb : ((X : Int) == (Y : Int)) = true := by rw [beq_iff_eq]; omega
          rw [hb] at hck
          obtain ⟨rfl, hn4, _⟩ := hsp.bad hck
          have HN4 := Lib.hid hn4
          clear hsp hn4 hck hD1XY
          by_cases hxa : X = A
          · by_cases hyb : Y = B
            · exact absurd hXY (by omega)
            · have bXA : ((X : Int) == (A : Int)) = true := by rw [beq_iff_eq]; omega
              have bYB : ((Y : Int) == (B : Int)) = false := by rw [beq_eq_false_iff_ne]; omega
              have bXB : ((X : Int) == (B : Int)) = false := by rw [beq_eq_false_iff_ne]; omega
              go_wp2_with fail
              go_roundw
              case rel => exact ⟨i + 1, want, n, last, S, M, C', rfl, by go_num, by omega, by omega, by omega, by omega, by omega, HN4.out, Lib.hid ⟨HC'.out, HS.out.2⟩⟩
              case measure => simp [intOf]; omega
          · by_cases hxb : X = B
            · by_cases hya : Y = A
              · exact absurd hXY (by omega)
              · have bXA : ((X : Int) == (A : Int)) = false := by rw [beq_eq_false_iff_ne]; omega
                have bXB : ((X : Int) == (B : Int)) = true := by rw [beq_iff_eq]; omega
                have bYA : ((Y : Int) == (A : Int)) = false := by rw [beq_eq_false_iff_ne]; omega
                go_wp2_with fail
                go_roundw
                case rel => exact ⟨i + 1, want, n, last, S, M, C', rfl, by go_num, by omega, by omega, by omega, by omega, by omega, HN4.out, Lib.hid ⟨HC'.out, HS.out.2⟩⟩
                case measure => simp [intOf]; omega
            · have bXA : ((X : Int) == (A : Int)) = false := by rw [beq_eq_false_iff_ne]; omega
              have bXB : ((X : Int) == (B : Int)) = false := by rw [beq_eq_false_iff_ne]; omega
              go_wp2_with fail
              go_roundw
              case rel => exact ⟨i + 1, want, n, last, S, M, C', rfl, by go_num, by omega, by omega, by omega, by omega, by omega, HN4.out, Lib.hid ⟨HC'.out, HS.out.2⟩⟩
              case measure => simp [intOf]; omega
        have hXYb : ((X : Int) == (Y : Int)) = false := by rw [beq_eq_false_iff_ne]; omega
        rw [hXYb] at hck
        by_cases hcut : C' (askM (X : Int) (Y : Int) (i : Int)).frm.toNat (askM (X : Int) (Y : Int) (i : Int)).dst.toNat = true
        · obtain ⟨rfl, hn4, _⟩ := hsp.off (inB_t.2 (by omega)) (inB_t.2 (by omega)) hck hcut
          have HN4 := Lib.hid hn4
          have hoff : (X = A ∧ Y = B) ∨ (X = B ∧ Y = A) := by
            rcases HC'.out with h | h
            · rw [h] at hcut; cases hcut
            · rw [h, hD1XY] at hcut; exact of_decide_eq_true hcut
          clear hsp hn4 hck hcut hD1XY
          by_cases hxa : X = A
          · by_cases hyb : Y = B
            · have bXA : ((X : Int) == (A : Int)) = true := by rw [beq_iff_eq]; omega
              have bYB : ((Y : Int) == (B : Int)) = true := by rw [beq_iff_eq]; omega
              go_wp2_with fail
              go_roundw
              case rel => exact ⟨i + 1, want, n, last, S, M, C', rfl, by go_num, by omega, by omega, by omega, by omega, by omega, HN4.out, Lib.hid ⟨HC'.out, HS.out.2⟩⟩
              case measure => simp [intOf]; omega
            · exact absurd hoff (by omega)
          · by_cases hxb : X = B
            · by_cases hya : Y = A
              · have bXA : ((X : Int) == (A : Int)) = false := by rw [beq_eq_false_iff_ne]; omega
                have bXB : ((X : Int) == (B : Int)) = true := by rw [beq_iff_eq]; omega
                have bYA : ((Y : Int) == (A : Int)) = true := by rw [beq_iff_eq]; omega
                go_wp2_with fail
                go_roundw
                case rel => exact ⟨i + 1, want, n, last, S, M, C', rfl, by go_num, by omega, by omega, by omega, by omega, by omega, HN4.out, Lib.hid ⟨HC'.out, HS.out.2⟩⟩
                case measure => simp [intOf]; omega
              · exact absurd hoff (by omega)
            · exact absurd hoff (by omega)
        obtain ⟨rfl, hn4, _⟩ := hsp.ok (inB_t.2 (by omega)) (inB_t.2 (by omega)) hck (by simpa using hcut) (by omega)
        have HN4 := Lib.hid hn4
        clear hsp hn4 hck hcut
        by_cases hxa : X = A
        · by_cases hyb : Y = B
          · have bXA : ((X : Int) == (A : Int)) = true := by rw [beq_iff_eq]; omega
            have bYB : ((Y : Int) == (B : Int)) = true := by rw [beq_iff_eq]; omega
            have HS' := Lib.hid (HS.out.2.step hl0 (askM (X : Int) (Y : Int) (i : Int)))
            rw [hD1XY, if_pos (decide_eq_true (by omega))] at HS'
            go_wp2_with fail
            go_roundw
            case rel => exact ⟨i + 1, want, n + 1, last + 1, _, _, C', rfl, by go_num, by omega, by omega, by omega, by omega, by rw [Ag.ins_len]; omega, HN4.out, Lib.hid ⟨HC'.out, HS'.out⟩⟩
            case measure => simp [intOf]; omega
          · have bXA : ((X : Int) == (A : Int)) = true := by rw [beq_iff_eq]; omega
            have bYB : ((Y : Int) == (B : Int)) = false := by rw [beq_eq_false_iff_ne]; omega
            have bXB : ((X : Int) == (B : Int)) = false := by rw [beq_eq_false_iff_ne]; omega
            have HS' := Lib.hid (HS.out.2.step hl0 (askM (X : Int) (Y : Int) (i : Int)))
            rw [hD1XY, if_neg (by rw [decide_eq_true_iff]; omega)] at HS'
            go_wp2_with fail
            go_roundw
            case rel => exact ⟨i + 1, want + 1, n + 1, last + 1, _, _, C', by go_num, by go_num, by omega, by omega, by omega, by omega, by rw [Ag.ins_len]; omega, HN4.out, Lib.hid ⟨HC'.out, HS'.out⟩⟩
            case measure => simp [intOf]; omega
        · by_cases hxb : X = B
          · by_cases hya : Y = A
            · have bXA : ((X : Int) == (A : Int)) = false := by rw [beq_eq_false_iff_ne]; omega
              have bXB : ((X : Int) == (B : Int)) = true := by rw [beq_iff_eq]; omega
              have bYA : ((Y : Int) == (A : Int)) = true := by rw [beq_iff_eq]; omega
              have HS' := Lib.hid (HS.out.2.step hl0 (askM (X : Int) (Y : Int) (i : Int)))
              rw [hD1XY, if_pos (decide_eq_true (by omega))] at HS'
              go_wp2_with fail
              go_roundw
              case rel => exact ⟨i + 1, want, n + 1, last + 1, _, _, C', rfl, by go_num, by omega, by omega, by omega, by omega, by rw [Ag.ins_len]; omega, HN4.out, Lib.hid ⟨HC'.out, HS'.out⟩⟩
              case measure => simp [intOf]; omega
            · have bXA : ((X : Int) == (A : Int)) = false := by rw [beq_eq_false_iff_ne]; omega
              have bXB : ((X : Int) == (B : Int)) = true := by rw [beq_iff_eq]; omega
              have bYA : ((Y : Int) == (A : Int)) = false := by rw [beq_eq_false_iff_ne]; omega
              have HS' := Lib.hid (HS.out.2.step hl0 (askM (X : Int) (Y : Int) (i : Int)))
              rw [hD1XY, if_neg (by rw [decide_eq_true_iff]; omega)] at HS'
              go_wp2_with fail
              go_roundw
              case rel => exact ⟨i + 1, want + 1, n + 1, last + 1, _, _, C', by go_num, by go_num, by omega, by omega, by omega, by omega, by rw [Ag.ins_len]; omega, HN4.out, Lib.hid ⟨HC'.out, HS'.out⟩⟩
              case measure => simp [intOf]; omega
          · have bXA : ((X : Int) == (A : Int)) = false := by rw [beq_eq_false_iff_ne]; omega
            have bXB : ((X : Int) == (B : Int)) = false := by rw [beq_eq_false_iff_ne]; omega
            have HS' := Lib.hid (HS.out.2.step hl0 (askM (X : Int) (Y : Int) (i : Int)))
            rw [hD1XY, if_neg (by rw [decide_eq_true_iff]; omega)] at HS'
            go_wp2_with fail
            go_roundw
            case rel => exact ⟨i + 1, want + 1, n + 1, last + 1, _, _, C', by go_num, by go_num, by omega, by omega, by omega, by omega, by rw [Ag.ins_len]; omega, HN4.out, Lib.hid ⟨HC'.out, HS'.out⟩⟩
            case measure => simp [intOf]; omega
      · have hmi : ¬ (i : Int) = (l.length : Int) / 2 := by omega
        have hmib : ((i : Int) == (l.length : Int) / 2) = false := by rw [beq_eq_false_iff_ne]; exact hmi
        have HNc := HNq
        obtain ⟨C', hC'⟩ : ∃ C', C' = C := ⟨_, rfl⟩
        rw [← hC'] at HNc HS
        have HC' : Hid (C' = noC ∨ C' = D1) := Lib.hid HS.out.1
        clear hC' HNq
        have AC := Lib.hid (fun W => ask_calls (X : Int) (Y : Int) (i : Int) W)
        go_wp2_with fail
        (with_reducible refine (AC.out _).mono ?_)
        rintro e w3 ⟨rfl, hm3⟩
        have HN3 := Lib.hid (HNc.out.mod hm3)
        clear hm3 HNc AC
        have SC := Lib.hid (asend_calls w w3 g ag mb _ _ _ _ _ HN3.out (by omega) (by omega) 0 (X : Int) (Y : Int) (i : Int) 1)
        go_wp2_with fail
        (with_reducible refine (SC.out).mono ?_)
        rintro e w4 hsp
        have hck := ask_check (X : Int) (Y : Int) (i : Int) (by omega) (by omega) (by omega)
        have hD1XY : D1 (askM (X : Int) (Y : Int) (i : Int)).frm.toNat (askM (X : Int) (Y : Int) (i : Int)).dst.toNat = decide ((X = A ∧ Y = B) ∨ (X = B ∧ Y = A)) := by rw [← HC1.out X Y]; rfl
        clear SC HN3
        by_cases hXY : X = Y
        · have hb : ((X : Int) == (Y : Int)) = true := by rw [beq_iff_eq]; omega
          rw [hb] at hck
          obtain ⟨rfl, hn4, _⟩ := hsp.bad hck
          have HN4 := Lib.hid hn4
          clear hsp hn4 hck hD1XY
          by_cases hxa : X = A
          · by_cases hyb : Y = B
            · exact absurd hXY (by omega)
            · have bXA : ((X : Int) == (A : Int)) = true := by rw [beq_iff_eq]; omega
              have bYB : ((Y : Int) == (B : Int)) = false := by rw [beq_eq_false_iff_ne]; omega
              have bXB : ((X : Int) == (B : Int)) = false := by rw [beq_eq_false_iff_ne]; omega
              go_wp2_with fail
              go_roundw
              case rel => exact ⟨i + 1, want, n, last, S, M, C', rfl, by go_num, by omega, by omega, by omega, by omega, by omega, HN4.out, Lib.hid ⟨HC'.out, HS.out.2⟩⟩
              case measure => simp [intOf]; omega
          · by_cases hxb : X = B
            · by_cases hya : Y = A
              · exact absurd hXY (by omega)
              · have bXA : ((X : Int) == (A : Int)) = false := by rw [beq_eq_false_iff_ne]; omega
                have bXB : ((X : Int) == (B : Int)) = true := by rw [beq_iff_eq]; omega
                have bYA : ((Y : Int) == (A : Int)) = false := by rw [beq_eq_false_iff_ne]; omega
                go_wp2_with fail
                go_roundw
                case rel => exact ⟨i + 1, want, n, last, S, M, C', rfl, by go_num, by omega, by omega, by omega, by omega, by omega, HN4.out, Lib.hid ⟨HC'.out, HS.out.2⟩⟩
                case measure => simp [intOf]; omega
            · have bXA : ((X : Int) == (A : Int)) = false := by rw [beq_eq_false_iff_ne]; omega
              have bXB : ((X : Int) == (B : Int)) = false := by rw [beq_eq_false_iff_ne]; omega
              go_wp2_with fail
              go_roundw
              case rel => exact ⟨i + 1, want, n, last, S, M, C', rfl, by go_num, by omega, by omega, by omega, by omega, by omega, HN4.out, Lib.hid ⟨HC'.out, HS.out.2⟩⟩
              case measure => simp [intOf]; omega
        have hXYb : ((X : Int) == (Y : Int)) = false := by rw [beq_eq_false_iff_ne]; omega
        rw [hXYb] at hck
        by_cases hcut : C' (askM (X : Int) (Y : Int) (i : Int)).frm.toNat (askM (X : Int) (Y : Int) (i : Int)).dst.toNat = true
        · obtain ⟨rfl, hn4, _⟩ := hsp.off (inB_t.2 (by omega)) (inB_t.2 (by omega)) hck hcut
          have HN4 := Lib.hid hn4
          have hoff : (X = A ∧ Y = B) ∨ (X = B ∧ Y = A) := by
            rcases HC'.out with h | h
            · rw [h] at hcut; cases hcut
            · rw [h, hD1XY] at hcut; exact of_decide_eq_true hcut
          clear hsp hn4 hck hcut hD1XY
          by_cases hxa : X = A
          · by_cases hyb : Y = B
            · have bXA : ((X : Int) == (A : Int)) = true := by rw [beq_iff_eq]; omega
              have bYB : ((Y : Int) == (B : Int)) = true := by rw [beq_iff_eq]; omega
              go_wp2_with fail
              go_roundw
              case rel => exact ⟨i + 1, want, n, last, S, M, C', rfl, by go_num, by omega, by omega, by omega, by omega, by omega, HN4.out, Lib.hid ⟨HC'.out, HS.out.2⟩⟩
              case measure => simp [intOf]; omega
            · exact absurd hoff (by omega)
          · by_cases hxb : X = B
            · by_cases hya : Y = A
              · have bXA : ((X : Int) == (A : Int)) = false := by rw [beq_eq_false_iff_ne]; omega
                have bXB : ((X : Int) == (B : Int)) = true := by rw [beq_iff_eq]; omega
                have bYA : ((Y : Int) == (A : Int)) = true := by rw [beq_iff_eq]; omega
                go_wp2_with fail
                go_roundw
                case rel => exact ⟨i + 1, want, n, last, S, M, C', rfl, by go_num, by omega, by omega, by omega, by omega, by omega, HN4.out, Lib.hid ⟨HC'.out, HS.out.2⟩⟩
                case measure => simp [intOf]; omega
              · exact absurd hoff (by omega)
            · exact absurd hoff (by omega)
        obtain ⟨rfl, hn4, _⟩ := hsp.ok (inB_t.2 (by omega)) (inB_t.2 (by omega)) hck (by simpa using hcut) (by omega)
        have HN4 := Lib.hid hn4
        clear hsp hn4 hck hcut
        by_cases hxa : X = A
        · by_cases hyb : Y = B
          · have bXA : ((X : Int) == (A : Int)) = true := by rw [beq_iff_eq]; omega
            have bYB : ((Y : Int) == (B : Int)) = true := by rw [beq_iff_eq]; omega
            have HS' := Lib.hid (HS.out.2.step hl0 (askM (X : Int) (Y : Int) (i : Int)))
            rw [hD1XY, if_pos (decide_eq_true (by omega))] at HS'
            go_wp2_with fail
            go_roundw
            case rel => exact ⟨i + 1, want, n + 1, last + 1, _, _, C', rfl, by go_num, by omega, by omega, by omega, by omega, by rw [Ag.ins_len]; omega, HN4.out, Lib.hid ⟨HC'.out, HS'.out⟩⟩
            case measure => simp [intOf]; omega
          · have bXA : ((X : Int) == (A : Int)) = true := by rw [beq_iff_eq]; omega
            have bYB : ((Y : Int) == (B : Int)) = false := by rw [beq_eq_false_iff_ne]; omega
            have bXB : ((X : Int) == (B : Int)) = false := by rw [beq_eq_false_iff_ne]; omega
            have HS' := Lib.hid (HS.out.2.step hl0 (askM (X : Int) (Y : Int) (i : Int)))
            rw [hD1XY, if_neg (by rw [decide_eq_true_iff]; omega)] at HS'
            go_wp2_with fail
            go_roundw
            case rel => exact ⟨i + 1, want + 1, n + 1, last + 1, _, _, C', by go_num, by go_num, by omega, by omega, by omega, by omega, by rw [Ag.ins_len]; omega, HN4.out, Lib.hid ⟨HC'.out, HS'.out⟩⟩
            case measure => simp [intOf]; omega
        · by_cases hxb : X = B
          · by_cases hya : Y = A
            · have bXA : ((X : Int) == (A : Int)) = false := by rw [beq_eq_false_iff_ne]; omega
              have bXB : ((X : Int) == (B : Int)) = true := by rw [beq_iff_eq]; omega
              have bYA : ((Y : Int) == (A : Int)) = true := by rw [beq_iff_eq]; omega
              have HS' := Lib.hid (HS.out.2.step hl0 (askM (X : Int) (Y : Int) (i : Int)))
              rw [hD1XY, if_pos (decide_eq_true (by omega))] at HS'
              go_wp2_with fail
              go_roundw
              case rel => exact ⟨i + 1, want, n + 1, last + 1, _, _, C', rfl, by go_num, by omega, by omega, by omega, by omega, by rw [Ag.ins_len]; omega, HN4.out, Lib.hid ⟨HC'.out, HS'.out⟩⟩
              case measure => simp [intOf]; omega
            · have bXA : ((X : Int) == (A : Int)) = false := by rw [beq_eq_false_iff_ne]; omega
              have bXB : ((X : Int) == (B : Int)) = true := by rw [beq_iff_eq]; omega
              have bYA : ((Y : Int) == (A : Int)) = false := by rw [beq_eq_false_iff_ne]; omega
              have HS' := Lib.hid (HS.out.2.step hl0 (askM (X : Int) (Y : Int) (i : Int)))
              rw [hD1XY, if_neg (by rw [decide_eq_true_iff]; omega)] at HS'
              go_wp2_with fail
              go_roundw
              case rel => exact ⟨i + 1, want + 1, n + 1, last + 1, _, _, C', by go_num, by go_num, by omega, by omega, by omega, by omega, by rw [Ag.ins_len]; omega, HN4.out, Lib.hid ⟨HC'.out, HS'.out⟩⟩
              case measure => simp [intOf]; omega
          · have bXA : ((X : Int) == (A : Int)) = false := by rw [beq_eq_false_iff_ne]; omega
            have bXB : ((X : Int) == (B : Int)) = false := by rw [beq_eq_false_iff_ne]; omega
            have HS' := Lib.hid (HS.out.2.step hl0 (askM (X : Int) (Y : Int) (i : Int)))
            rw [hD1XY, if_neg (by rw [decide_eq_true_iff]; omega)] at HS'
            go_wp2_with fail
            go_roundw
            case rel => exact ⟨i + 1, want + 1, n + 1, last + 1, _, _, C', by go_num, by go_num, by omega, by omega, by omega, by omega, by rw [Ag.ins_len]; omega, HN4.out, Lib.hid ⟨HC'.out, HS'.out⟩⟩
            case measure => simp [intOf]; omega
    · obtain rfl : i = l.length := by omega
      have CC := Lib.hid (cut_calls w wr g ag mb last S n M C HN.out (A : Int) (B : Int) true)
      rw [HCC.out C HS.out.1] at CC
      go_wp2_with fail
      (with_reducible refine (CC.out).mono ?_)
      rintro e w3 ⟨rfl, hn3, _⟩
      have HN3 := Lib.hid hn3
      clear hn3 CC HN
      have DC := Lib.hid (due_calls w w3 g ag mb last S n M D1 HN3.out (by omega) 1)
      go_wp2_with fail
      (with_reducible refine (DC.out).mono ?_)
      rintro e w4 ⟨vo, os, rfl, hn4, _, ho4, hx4⟩
      obtain ⟨hd1, hd2⟩ := one_due HS.out.2.one
      rw [hd1] at hx4 hn4
      rw [hd2] at hn4
      have hol : os.length = want := by rw [← HS.out.2.cnt, ← hx4, List.length_map]
      subst hol
      have HOM : Hid (∀ k (hk : k < os.length), checkB os[k].1 = true ∧ D1 os[k].1.frm.toNat os[k].1.dst.toNat = false) := Lib.hid (fun k hk => by
        have hm : os[k].1 ∈ outM D1 M S := by rw [← hx4]; exact List.mem_map.2 ⟨_, List.getElem_mem hk, rfl⟩
        obtain ⟨s, hs, e1, e2⟩ := outM_mem hm
        exact ⟨HN3.out.ok _ _ e1, e2⟩)
      obtain ⟨va, vc, rfl⟩ := Rw.own_slice ho4.own
      have HN4 := Lib.hid hn4
      have HO4 := Lib.hid ho4
      have hol' : (os.length : Int) ≤ 100 := by omega
      clear hn4 ho4 hx4 DC HN3 hd1 hd2
      generalize delL M S = M4 at *
      go_wp2_with fail
      obtain ⟨wz, rfl⟩ : ∃ wz, wz = wr := ⟨_, rfl⟩
      go_loopw [16] (fun vj wr => ∃ j : Nat, vj = .int .i64 (j : Int) ∧ j ≤ os.length ∧ NetW w wr g ag mb last [] n M4 D1 ∧ OutW w.heap.size wr (.slice va os.length vc) os) (fun vj _ => os.length + 1 - (intOf vj).toNat)
      case atStart => exact ⟨0, rfl, Nat.zero_le _, HN4.out, HO4.out⟩
      case round =>
        obtain ⟨j, rfl, hj, hn, hou⟩ := hrel
        have HN := Lib.hid hn
        have HOU := Lib.hid hou
        clear hn hou HN4 HO4
        by_cases hlj : j < os.length
        · have hlj' : (j : Int) < os.length := by omega
          obtain ⟨gb, cap, hgv, hcap, hcs⟩ := HOU.out.cell hlj
          injection hgv with g1 g2 g3
          subst g1 g3
          clear g2
          obtain ⟨hck, hdf⟩ := HOM.out j hlj
          have e1 := hcs 1 (by omega)
          have e2 := hcs 2 (by omega)
          have ok1 := (checkB_ok hck).frm
          have ok2 := (checkB_ok hck).dst
          rw [HC1.out] at hdf
          have hno := of_decide_eq_false hdf
          obtain ⟨f, hf⟩ : ∃ f : Nat, (os[j]'hlj).1.frm = f := ⟨(os[j]'hlj).1.frm.toNat, by omega⟩
          obtain ⟨d, hd⟩ : ∃ d : Nat, (os[j]'hlj).1.dst = d := ⟨(os[j]'hlj).1.dst.toNat, by omega⟩
          rw [hf, hd, Int.toNat_natCast, Int.toNat_natCast] at hno
          replace e1 : wr.cell? ⟨gb, j * 13 + 1, none⟩ = some (.int .i64 (f : Int)) := by rw [← hf]; exact e1
          replace e2 : wr.cell? ⟨gb, j * 13 + 2, none⟩ = some (.int .i64 (d : Int)) := by rw [← hd]; exact e2
          clear hcs hck hdf ok1 ok2 hf hd
          by_cases hfa : f = A
          · have q1 : ((f : Int) == (A : Int)) = true := by rw [beq_iff_eq]; omega
            have q2 : ((d : Int) == (B : Int)) = false := by rw [beq_eq_false_iff_ne]; omega
            have q3 : ((f : Int) == (B : Int)) = false := by rw [beq_eq_false_iff_ne]; omega
            clear hno
            go_wp2_with fail
            go_roundw
            case rel => exact ⟨j + 1, by go_num, by omega, HN.out, HOU.out⟩
            case measure => simp [intOf]; omega
          · have q1 : ((f : Int) == (A : Int)) = false := by rw [beq_eq_false_iff_ne]; omega
            by_cases hfb : f = B
            · have q2 : ((f : Int) == (B : Int)) = true := by rw [beq_iff_eq]; omega
              have q3 : ((d : Int) == (A : Int)) = false := by rw [beq_eq_false_iff_ne]; omega
              clear hno
              go_wp2_with fail
              go_roundw
              case rel => exact ⟨j + 1, by go_num, by omega, HN.out, HOU.out⟩
              case measure => simp [intOf]; omega
            · have q2 : ((f : Int) == (B : Int)) = false := by rw [beq_eq_false_iff_ne]; omega
              clear hno
              go_wp2_with fail
              go_roundw
              case rel => exact ⟨j + 1, by go_num, by omega, HN.out, HOU.out⟩
              case measure => simp [intOf]; omega
        · obtain rfl : j = os.length := by omega
          have CC := Lib.hid (cut_calls w wr g ag mb last [] n M4 D1 HN.out (B : Int) (A : Int) false)
          have AC := Lib.hid (fun W => ask_calls (A : Int) (B : Int) 3 W)
          generalize cutC D1 (B : Int) (A : Int) false = D2 at *
          go_wp2_with fail
          (with_reducible refine (CC.out).mono ?_)
          rintro e w5 ⟨rfl, hn5, _⟩
          have HN5 := Lib.hid hn5
          clear hn5 CC HN HOU HOM
          go_wp2_with fail
          (with_reducible refine (AC.out _).mono ?_)
          rintro e w6 ⟨rfl, hm6⟩
          have HN6 := Lib.hid (HN5.out.mod hm6)
          clear hm6 HN5 AC
          have SC := Lib.hid (asend_calls w w6 g ag mb _ _ _ _ _ HN6.out (by omega) (by omega) 1 (A : Int) (B : Int) 3 0)
          go_wp2_with fail
          (with_reducible refine (SC.out).mono ?_)
          rintro e w7 hsp
          obtain ⟨rfl, hn7, _⟩ := hsp.ok (inB_t.2 (by omega)) (inB_t.2 (by omega)) (by rw [ask_check _ _ _ (by omega) (by omega) (by omega), hABb]; rfl) HCO.out (by simp)
          have HN7 : Hid (NetW w w7 g ag mb (last + 1) [(1, last + 1, 0)] (n + 1) (setM M4 (last + 1) (askM A B 3)) D2) := Lib.hid hn7
          clear hsp hn7 SC HN6
          have ho : (outM D2 (setM M4 (last + 1) (askM A B 3)) [(1, last + 1, 0)]).length = 1 := by
            have := outM_snoc D2 (setM M4 (last + 1) (askM A B 3)) [] (1, last + 1, 0) (askM A B 3) (by unfold setM; rw [if_pos rfl])
            rw [if_neg (by show ¬ D2 A B = true; rw [HCO.out]; simp)] at this
            rw [List.nil_append] at this
            rw [this]; rfl
          have DC := Lib.hid (duel_calls w w7 g ag mb _ _ _ _ _ HN7.out (by omega) 1 (D := [(1, last + 1, 0)]) (L := []) rfl rfl ho)
          clear ho
          have hl0' : 0 < last + 1 := by omega
          go_wp2_with fail
          (with_reducible refine (DC.out).mono ?_)
          rintro e w8 ⟨aa, ca, rfl, hn8, _⟩
          have HB := Lib.hid hn8.md.below0
          clear hn8 DC HN7
          go_wp2_with fail
          go_ret
          exact ⟨rfl, HB.out⟩
end Go.Proofs.Ytgmenlfhkhdbdaa.Nt
