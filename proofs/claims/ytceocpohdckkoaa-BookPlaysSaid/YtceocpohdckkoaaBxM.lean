/- Books: the reference's Load. -/
import Derived.Test.YtceocpohdckkoaaBxK
import Derived.Test.YtceocpohdckkoaaBxL
import Derived.Test.YtceocpohdckkoaaRef3
namespace Go.Proofs.Ytceocpohdckkoaa.Bx
open Go.RowKit Mem Bits
set_option linter.unusedSimpArgs false
set_option linter.unusedVariables false
set_option maxRecDepth 100000

abbrev tU : TypeId := 121
abbrev tB18 : TypeId := 57
theorem rdL_take (m : Nat) (t : Tp) (j : Nat) : ∀ d, (rdL m (j + d) t).1.take j = (rdL m j t).1
  | 0 => by rw [Nat.add_zero, List.take_of_length_le (by rw [rdL_len]; omega)]
  | d + 1 => by
    have h : (rdL m (j + (d + 1)) t).1 = (rdL m (j + d) t).1 ++ [capN m (rdL m (j + d) t).2.n] := rfl
    rw [h, List.take_append_of_le_length (by rw [rdL_len]; omega)]
    exact rdL_take m t j d
theorem may_neg {xs : List Int} {x : Int} (hx : x ∈ xs) (hn : x < 0) : mayB xs = false := by
  cases h : mayB xs with
  | false => rfl
  | true => have := ((mayB_vals h).2.2 x hx).1; omega
theorem row_many {t : Tp} (h : 16 < t.n) : mayB (rowD t).1 = false := by
  have : (rowD t).1 = [] := by
    apply List.eq_nil_of_length_eq_zero
    unfold rowD
    rw [rdL_len]
    unfold capN
    rw [if_pos h]
    rfl
  rw [this]
  rfl
theorem row_big {t : Tp} {j : Nat} (hk : j < (capN 16 t.n).toNat) (h : 549755813888 < (rdL 549755813888 j t.next).2.n) : mayB (rowD t).1 = false := by
  refine may_neg (x := -1) ?_ (by omega)
  unfold rowD
  obtain ⟨d, hd⟩ : ∃ d, (capN 16 t.n).toNat = (j + 1) + d := ⟨(capN 16 t.n).toNat - (j + 1), by omega⟩
  rw [hd]
  have h1 := rdL_take 549755813888 t.next (j + 1) d
  refine List.mem_of_mem_take (i := j + 1) ?_
  rw [h1]
  unfold rdL
  simp only
  rw [List.mem_append]
  right
  unfold capN
  rw [if_pos h]
  simp
theorem rows_fail {i : Nat} {t u : Tp} {l : List (List Int)} (h : rowsD i t = some (l, u)) (hm : mayB (rowD u).1 = false) {n : Nat} (hn : i < n) : rowsD n t = none := by
  have h1 : rowsD (i + 1) t = none := by
    unfold rowsD
    rw [h]
    simp only
    rw [if_neg (by rw [hm]; simp)]
  have h2 := rowsD_none h1 (n - (i + 1))
  rw [show i + 1 + (n - (i + 1)) = n by omega] at h2
  exact h2
theorem load_bad {s : ByteArray} (h : 549755813888 < (Tp.n ⟨s, 0⟩) ∨ 64 < (Tp.next ⟨s, 0⟩).n) : loadD s = none := by
  unfold loadD
  simp only
  cases hr : rowsD (capN 64 (Tp.next ⟨s, 0⟩).n).toNat (Tp.next ⟨s, 0⟩).next with
  | none => rfl
  | some q =>
    simp only
    rw [if_neg]
    rintro ⟨_, h1, h2, _⟩
    have := (capN_nn h1).2
    have := (capN_nn h2).2
    omega
theorem two_cells {W : World} {g : Nat} {a b : Value} {t : TypeId} (h : Blk W g #[a, b] t) (u v : Value) : Blk ((W.setCell ⟨g, 0, none⟩ u).setCell ⟨g, 1, none⟩ v) g #[u, v] t := (h.set 0 u).set 1 v
/-- The reference's rows stay where a struct of two cells is stored. -/
theorem RrAt.two {W : World} {v : Value} {rows : List (List Int)} {g : Nat} {a b : Value} {t : TypeId} (h : RrAt 0 W v rows) (hb : Blk W g #[a, b] t) (hI : t ≠ tI := by decide) (hR : t ≠ tR := by decide) {x y : Value} : RrAt 0 ((W.setCell ⟨g, 0, none⟩ x).setCell ⟨g, 1, none⟩ y) v rows := by
  have hk : ∀ k cs s, Blk W k cs s → s ≠ t → Blk ((W.setCell ⟨g, 0, none⟩ x).setCell ⟨g, 1, none⟩ y) k cs s := fun k cs s h hs => (h.far (p := ⟨g, 0, none⟩) (blk_ne h hb hs) _).far (p := ⟨g, 1, none⟩) (blk_ne h hb hs) _
  obtain ⟨ad, cap, us, h1, h2, h3, h4⟩ := h
  refine ⟨ad, cap, us, h1, h2, all2_mono (fun u xs h => h.keptI (by rintro k cs s h rfl; exact hk _ _ _ h (fun e => hI e.symm))) h3, h4.imp id (fun ⟨b', off, cs, q1, q2, q3⟩ => ?_)⟩
  have q2' := hk _ _ _ q2 (fun e => hR e.symm)
  exact ⟨b', off, cs, q1, q2', fun i hi => by rw [q2'.cell, ← q2.cell]; exact q3 i hi⟩
/-- What the reference's Load answers. -/
def RLoadP (w : World) (R : Option (Int × List (List Int))) (e : Ending) (w' : World) : Prop := Mod w w' [] ∧ match R with
  | none => e = .returned (.tuple #[.agg #[.int .i64 0, .slice none 0 0], .int .i64 3])
  | some (b, l) => ∃ v, e = .returned (.tuple #[.agg #[.int .i64 b, v], .int .i64 0]) ∧ RrAt 0 w' v l

set_option maxHeartbeats 8000000 in
theorem rload_calls (s : ByteArray) (w : World) (hs : s.size ≤ 140737488355328) : Calls Try.prog 36 #[.string s] w (RLoadP w (loadD s)) := by
  obtain ⟨t0, ht0⟩ : ∃ t0 : Tp, t0 = ⟨s, 0⟩ := ⟨_, rfl⟩
  have HT0 := Lib.hid ht0
  have hz0 : t0.s.size ≤ 140737488355328 := by rw [ht0]; exact hs
  have hz1 := Nat.le_trans t0.next_size hz0
  have hz2 := Nat.le_trans t0.next.next_size hz1
  have NC : Hid (∀ (t : Tp) (w : World), t.s.size ≤ 140737488355328 → Calls Try.prog 60 #[.agg #[.string t.s, .int .i64 t.e]] w fun e w' => e = .returned (.tuple #[.agg #[.string t.next.s, .int .i64 t.next.e], .int .u64 (t.n : Int)]) ∧ Mod w w' []) := Lib.hid (fun t w h => rNum_calls t.s t.e w (by omega))
  have NL : Hid (∀ t : Tp, t.n < 18446744073709551616) := Lib.hid (fun t => tN_lt _ _)
  have HB2 := Lib.hid (Blk.new w #[.int .i64 0, .slice none 0 0] tB18)
  have HM0 := Lib.hid ((Mod.refl w []).alloc (.cells #[.int .i64 0, .slice none 0 0] tB18))
  have hse : s = t0.s := by rw [ht0]
  have hee : (0 : Int) = t0.e := by rw [ht0]
  have NC0 : Hid (∀ w, Calls Try.prog 60 #[.agg #[.string s, .int .i64 0]] w fun e w' => e = .returned (.tuple #[.agg #[.string t0.next.s, .int .i64 t0.next.e], .int .u64 (t0.n : Int)]) ∧ Mod w w' []) := Lib.hid (fun w => by
    have h := NC.out t0 w hz0
    rw [← hse, ← hee] at h
    exact h)
  clear ht0 hse hee
  go_enter Try.func36, Try.ntmps36
  go_wp2_with fail
  generalize w.alloc _ = W at *
  (with_reducible refine (NC0.out _).mono ?_)
  rintro e w1 ⟨rfl, hm1⟩
  have HB2b := Lib.hid (HB2.out.mod hm1 (by simp))
  have HM1 := Lib.hid (HM0.out.trans0 hm1)
  have hs1 := HM1.out.size
  clear hm1 HB2 HM0 NC0
  have HB4 := Lib.hid (Blk.new w1 #[.string t0.next.s, .int .i64 t0.next.e] tU)
  have HM4 := Lib.hid (HM1.out.alloc (.cells #[.string t0.next.s, .int .i64 t0.next.e] tU))
  have HB24 := Lib.hid (HB2b.out.alloc (.cells #[.string t0.next.s, .int .i64 t0.next.e] tU))
  have hn0 := NL.out t0
  go_wp2_with fail
  (with_reducible refine (NC.out t0.next _ hz1).mono ?_)
  rintro e w2 ⟨rfl, hm2⟩
  have HB2c := Lib.hid (HB24.out.mod hm2 (by simp))
  have HM2 := Lib.hid (HM4.out.trans0 hm2)
  have hs2 := HM2.out.size
  clear hm2 HB2b HM1 HB4 HM4 HB24
  have HB6 := Lib.hid (Blk.new w2 #[.string t0.next.next.s, .int .i64 t0.next.next.e] tU)
  have HM6 := Lib.hid (HM2.out.alloc (.cells #[.string t0.next.next.s, .int .i64 t0.next.next.e] tU))
  have HB26 := Lib.hid (HB2c.out.alloc (.cells #[.string t0.next.next.s, .int .i64 t0.next.next.e] tU))
  have hn1 := NL.out t0.next
  have HBAD := Lib.hid (load_bad (s := s))
  rw [← HT0.out] at HBAD
  obtain ⟨nb, hnb⟩ : ∃ n, t0.n = n := ⟨_, rfl⟩
  obtain ⟨nn, hnn⟩ : ∃ n, t0.next.n = n := ⟨_, rfl⟩
  rw [hnb, hnn] at HBAD
  rw [hnb] at hn0
  rw [hnn] at hn1
  have HNB := Lib.hid hnb
  have HNN := Lib.hid hnn
  have f0 := HB26.out.free 0
  have f1 := HB26.out.free 1
  have c0 := HB26.out.cell 0
  have c1 := HB26.out.cell 1
  by_cases hb1 : 549755813888 < nb
  · have hb1' : (549755813888 : Int) < nb := by omega
    have hr := Lib.hid (HBAD.out (.inl hb1))
    go_wp2_with fail
    have q := two_cells HB26.out (.int .i64 0) (.slice none 0 0)
    have q0 := q.cell 0
    have q1 := q.cell 1
    refine bodyPost_ret (v := .tuple #[.agg #[.int .i64 0, .slice none 0 0], .int .i64 3]) (by simp [results, Try.results36, go_sem, q0, q1]) rfl ?_
    rw [hr.out]
    exact ⟨(HM6.out.setCell (p := ⟨w.heap.size, 0, none⟩) (.inr (Nat.le_refl _)) _).setCell (p := ⟨w.heap.size, 1, none⟩) (.inr (Nat.le_refl _)) _, rfl⟩
  have hb1' : decide ((549755813888 : Int) < nb) = false := decide_eq_false (by omega)
  by_cases hb2 : 64 < nn
  · have hb2' : (64 : Int) < nn := by omega
    have hr := Lib.hid (HBAD.out (.inr hb2))
    go_wp2_with fail
    have q := two_cells HB26.out (.int .i64 0) (.slice none 0 0)
    have q0 := q.cell 0
    have q1 := q.cell 1
    refine bodyPost_ret (v := .tuple #[.agg #[.int .i64 0, .slice none 0 0], .int .i64 3]) (by simp [results, Try.results36, go_sem, q0, q1]) rfl ?_
    rw [hr.out]
    exact ⟨(HM6.out.setCell (p := ⟨w.heap.size, 0, none⟩) (.inr (Nat.le_refl _)) _).setCell (p := ⟨w.heap.size, 1, none⟩) (.inr (Nat.le_refl _)) _, rfl⟩
  have hb2' : decide ((64 : Int) < nn) = false := decide_eq_false (by omega)
  have hwb := IntWalk.i64_in (nb : Int) (by omega)
  have hwn := IntWalk.i64_in (nn : Int) (by omega)
  have hnb2 : (nb : Int) ≤ 549755813888 := by omega
  have hnn2 : (nn : Int) ≤ 64 := by omega
  have HLD : Hid (loadD s = match rowsD nn t0.next.next with
      | none => none
      | some (l, u) => if endE u.s u.e = 0 ∧ (nb : Int) + l.length ≤ 549755813888 then some ((nb : Int), l) else none) := Lib.hid (by
    unfold loadD
    rw [← HT0.out]
    simp only
    have e1 : capN 549755813888 t0.n = (nb : Int) := by rw [HNB.out]; unfold capN; rw [if_neg hb1]
    have e2 : capN 64 t0.next.n = (nn : Int) := by rw [HNN.out]; unfold capN; rw [if_neg hb2]
    rw [e1, e2, Int.toNat_natCast]
    cases rowsD nn t0.next.next with
    | none => rfl
    | some q =>
      simp only
      by_cases h : endE q.2.s q.2.e = 0 ∧ (nb : Int) + q.1.length ≤ 549755813888
      · rw [if_pos ⟨h.1, by omega, by omega, h.2⟩, if_pos h]
      · rw [if_neg (fun hh => h ⟨hh.1, hh.2.2.2⟩), if_neg h])
  generalize loadD s = R at *
  obtain ⟨t2, ht2⟩ : ∃ t, t0.next.next = t := ⟨_, rfl⟩
  rw [ht2] at HB6 hz2 HLD HB26 HM6 ⊢
  obtain ⟨w3, hw3⟩ : ∃ w3, w2.alloc (.cells #[.string t2.s, .int .i64 t2.e] tU) = w3 := ⟨_, rfl⟩
  have hg6 : w2.heap.size < w3.heap.size := by rw [← hw3]; simp
  obtain ⟨g6, hg6e⟩ : ∃ g, w2.heap.size = g := ⟨_, rfl⟩
  have hg26 : w.heap.size < g6 := by have := HB2c.out.lt; omega
  rw [hw3] at HB6 HB26 HM6
  rw [hg6e] at HB6 hg6
  have HB8 := Lib.hid (Blk.new w3 #[.int .i64 (nb : Int), .slice none 0 0] tB18)
  have HM8 := Lib.hid (HM6.out.alloc (.cells #[.int .i64 (nb : Int), .slice none 0 0] tB18))
  have HB28 := Lib.hid (HB26.out.alloc (.cells #[.int .i64 (nb : Int), .slice none 0 0] tB18))
  have HB68 := Lib.hid (HB6.out.alloc (.cells #[.int .i64 (nb : Int), .slice none 0 0] tB18))
  obtain ⟨i1, hi1, hy0, hy1, hy2⟩ := info_parts info_rr
  obtain ⟨i0, hi0, hx0, hx1, hx2⟩ := info_parts info_int
  clear HBAD HB26 HM6 HB6 f0 f1 c0 c1 ht2
  go_wp2_with fail
  (try rw [hw3])
  (try rw [hg6e])
  generalize hw4 : w3.alloc _ = w4 at *
  obtain ⟨g8, hg8e⟩ : ∃ g, w3.heap.size = g := ⟨_, rfl⟩
  rw [hg8e] at HB8 hg6 ⊢
  clear hw4 hg8e
  go_loopw [9] (fun vi wr => ∃ (i : Nat) (l : List (List Int)) (u : Tp) (v : Value) (us : List Value), vi = .int .i64 (i : Int) ∧ i ≤ nn ∧ rowsD i t2 = some (l, u) ∧ u.s.size ≤ 140737488355328 ∧ Mod w wr [] ∧ Blk wr w.heap.size #[.int .i64 0, .slice none 0 0] tB18 ∧
    Blk wr g6 #[.string u.s, .int .i64 u.e] tU ∧ Blk wr g8 #[.int .i64 (nb : Int), v] tB18 ∧ wr.ownsRow (g8 + 1) tR 1 v i us ∧ All2 (IntsQ 0 wr) us l) (fun vi _ => nn + 1 - (intOf vi).toNat)
  case atStart => exact ⟨0, [], t2, .slice none 0 0, [], rfl, Nat.zero_le _, rfl, hz2, HM8.out, HB28.out, HB68.out, HB8.out, World.ownsRow_nil _ _ _ _, .nil⟩
  case round =>
    obtain ⟨i, l, u, v, us, rfl, hin, hrd, hus, hm, hbk2, hbk6, hbk8, hown, hrows⟩ := hrel
    obtain ⟨wo, rfl⟩ : ∃ wo, wo = wr := ⟨_, rfl⟩
    have HRD := Lib.hid hrd
    have HM := Lib.hid hm
    have HK2 := Lib.hid hbk2
    have HK6 := Lib.hid hbk6
    have HK8 := Lib.hid hbk8
    have HO := Lib.hid hown
    have HR := Lib.hid hrows
    obtain ⟨va, vc, hva⟩ := Rw.own_slice hown
    subst hva
    have b60 := hbk6.cell 0
    have b61 := hbk6.cell 1
    have f60 := hbk6.free 0
    have f61 := hbk6.free 1
    have hl6 := hbk6.lt
    have hl8 := hbk8.lt
    clear hrd hm hbk2 hbk6 hbk8 hown hrows HB8 HM8 HB28 HB68
    by_cases hlt : i < nn
    · have hlt' : (i : Int) < nn := by omega
      have hu1 := u.next_size
      have hnm := NL.out u
      go_wp2_with fail
      (with_reducible refine (NC.out u _ hus).mono ?_)
      rintro e w5 ⟨rfl, hm5⟩
      have HM5 := Lib.hid (HM.out.trans0 hm5)
      have HM5o := Lib.hid (hm5.weak0 (R := [g6]))
      have c60 := (HK6.out.mod hm5 (by simp)).free 0
      have c61 := (HK6.out.mod hm5 (by simp)).free 1
      have d60 := (HK6.out.mod hm5 (by simp)).cell 0
      have d61 := (HK6.out.mod hm5 (by simp)).cell 1
      obtain ⟨w6, hw6⟩ : ∃ w6, ((w5.setCell ⟨g6, 0, none⟩ (.string u.next.s)).setCell ⟨g6, 1, none⟩ (.int .i64 u.next.e)).alloc (.cells #[.string u.next.s, .int .i64 u.next.e] tU) = w6 := ⟨_, rfl⟩
      have hk66 := (HK6.out.mod hm5 (by simp))
      have k0 := hk66.cell 0
      have k1 := hk66.cell 1
      have j0 := hk66.free 0
      have j1 := hk66.free 1
      have HM6 : Hid (Mod wo w6 [g6]) := Lib.hid (by
        rw [← hw6]
        exact (((hm5.weak0 (R := [g6])).setCell (p := ⟨g6, 0, none⟩) (by simp) _).setCell (p := ⟨g6, 1, none⟩) (by simp) _).alloc _)
      have HK66 : Hid (Blk w6 g6 #[.string u.next.s, .int .i64 u.next.e] tU) := Lib.hid (by rw [← hw6]; exact (two_cells hk66 _ _).alloc _)
      have hz5 : g6 < w5.heap.size := by have := hm5.size; omega
      have HK26 := Lib.hid (HK2.out.mod HM6.out (by simp; omega))
      have z20 := HK26.out.cell 0
      have z21 := HK26.out.cell 1
      have z22 := HK26.out.free 0
      have z23 := HK26.out.free 1
      have y0 := HK66.out.cell 0
      have y1 := HK66.out.cell 1
      clear hm5 b60 b61 f60 f61 c60 c61 d60 d61 hk66
      obtain ⟨many, hmany⟩ : ∃ m, u.n = m := ⟨_, rfl⟩
      rw [hmany] at hnm ⊢
      have HMANY := Lib.hid hmany
      clear hmany
      by_cases hbig : 16 < many
      · have hbig' : (16 : Int) < many := by omega
        have hr := Lib.hid (show R = none by rw [HLD.out, rows_fail HRD.out (row_many (by rw [HMANY.out]; exact hbig)) hlt])
        go_wp2_with fail
        have HMw := Lib.hid (HM.out.trans HM6.out (by simp; omega))
        have q := two_cells HK26.out (.int .i64 0) (.slice none 0 0)
        have q0 := q.cell 0
        have q1 := q.cell 1
        refine bodyPost_ret (v := .tuple #[.agg #[.int .i64 0, .slice none 0 0], .int .i64 3]) (by simp [results, Try.results36, go_sem, q0, q1]) rfl ?_
        rw [hr.out]
        exact ⟨(HMw.out.setCell (p := ⟨w.heap.size, 0, none⟩) (.inr (Nat.le_refl _)) _).setCell (p := ⟨w.heap.size, 1, none⟩) (.inr (Nat.le_refl _)) _, rfl⟩
      have hbigb : decide ((16 : Int) < many) = false := decide_eq_false (by omega)
      have hwm := IntWalk.i64_in (many : Int) (by omega)
      have hm16 : (many : Int) ≤ 16 := by omega
      have HRW : Hid (rowD u = rdL 549755813888 many u.next) := Lib.hid (by
        unfold rowD capN
        rw [HMANY.out, if_neg hbig]
        rfl)
      clear z20 z21 z22 z23 y0 y1
      go_wp2_with fail
      clear hw6 k0 k1 j0 j1
      go_loopw [12, 13] (fun vp vj wr => ∃ (j : Nat) (pa : Option Addr) (pc : Nat), vp = .slice pa j pc ∧ vj = .int .i64 (j : Int) ∧ j ≤ many ∧ Mod w6 wr [g6] ∧ Blk wr g6 #[.string (rdL 549755813888 j u.next).2.s, .int .i64 (rdL 549755813888 j u.next).2.e] tU ∧ wr.ownsRow w6.heap.size tI 1 (.slice pa j pc) j ((rdL 549755813888 j u.next).1.map iv)) (fun _ vj _ => many + 1 - (intOf vj).toNat)
      case atStart => exact ⟨0, none, 0, rfl, rfl, Nat.zero_le _, Mod.refl _ _, HK66.out, World.ownsRow_nil _ _ _ _⟩
      case round =>
        obtain ⟨j, pa, pc, rfl, rfl, hjm, hmi, hbi, hoi⟩ := hrel
        obtain ⟨wi, rfl⟩ : ∃ wi, wi = wr := ⟨_, rfl⟩
        have HMI := Lib.hid hmi
        have HBI := Lib.hid hbi
        have HOI := Lib.hid hoi
        have hsi := hmi.size
        have hg6i := hbi.lt
        clear hmi hbi hoi
        by_cases hjl : j < many
        · have hjl' : (j : Int) < many := by omega
          obtain ⟨u2, hu2⟩ : ∃ u2, (rdL 549755813888 j u.next).2 = u2 := ⟨_, rfl⟩
          have hus2 : u2.s.size ≤ 140737488355328 := by rw [← hu2]; exact Nat.le_trans (rdL_size _ _ _) (Nat.le_trans hu1 hus)
          have HU2 := Lib.hid hu2
          rw [hu2] at HBI
          clear hu2
          have b60 := HBI.out.cell 0
          have b61 := HBI.out.cell 1
          have hxm := NL.out u2
          go_wp2_with fail
          (with_reducible refine (NC.out u2 _ hus2).mono ?_)
          rintro e w7 ⟨rfl, hm7⟩
          obtain ⟨w8, hw8⟩ : ∃ w8, ((w7.setCell ⟨g6, 0, none⟩ (.string u2.next.s)).setCell ⟨g6, 1, none⟩ (.int .i64 u2.next.e)).alloc (.cells #[.string u2.next.s, .int .i64 u2.next.e] tU) = w8 := ⟨_, rfl⟩
          have hk66 := (HBI.out.mod hm7 (by simp))
          have k0 := hk66.cell 0
          have k1 := hk66.cell 1
          have j0 := hk66.free 0
          have j1 := hk66.free 1
          have HM8 : Hid (Mod wi w8 [g6]) := Lib.hid (by
            rw [← hw8]
            exact (((hm7.weak0 (R := [g6])).setCell (p := ⟨g6, 0, none⟩) (by simp) _).setCell (p := ⟨g6, 1, none⟩) (by simp) _).alloc _)
          have HB8 : Hid (Blk w8 g6 #[.string u2.next.s, .int .i64 u2.next.e] tU) := Lib.hid (by rw [← hw8]; exact (two_cells hk66 _ _).alloc _)
          have hz7 : g6 < w7.heap.size := by have := hm7.size; omega
          have HO8 := Lib.hid (own_mod HOI.out HM8.out (fun k hk => by obtain ⟨cur, hb⟩ := own_blk HOI.out k hk; simpa using blk_ne hb HBI.out (by decide)))
          have HK28 := Lib.hid ((HK26.out.mod HMI.out (by simp; omega)).mod HM8.out (by simp; omega))
          have z20 := HK28.out.cell 0
          have z21 := HK28.out.cell 1
          have z22 := HK28.out.free 0
          have z23 := HK28.out.free 1
          have y0 := HB8.out.cell 0
          have y1 := HB8.out.cell 1
          clear hm7 b60 b61 hk66
          obtain ⟨x, hx⟩ : ∃ m, u2.n = m := ⟨_, rfl⟩
          rw [hx] at hxm ⊢
          have HX := Lib.hid hx
          clear hx
          by_cases hxb : 549755813888 < x
          · have hxb' : (549755813888 : Int) < x := by omega
            have hr := Lib.hid (show R = none by
              rw [HLD.out, rows_fail HRD.out (row_big (j := j) ?_ ?_) hlt]
              · unfold capN
                rw [HMANY.out, if_neg hbig]
                omega
              · rw [HU2.out, HX.out]
                exact hxb)
            go_wp2_with fail
            have HMw := Lib.hid ((HM.out.trans HM6.out (by simp; omega)).trans (HMI.out.trans HM8.out (by simp)) (by simp; omega))
            have q := two_cells HK28.out (.int .i64 0) (.slice none 0 0)
            have q0 := q.cell 0
            have q1 := q.cell 1
            refine bodyPost_ret (v := .tuple #[.agg #[.int .i64 0, .slice none 0 0], .int .i64 3]) (by simp [results, Try.results36, go_sem, q0, q1]) rfl ?_
            rw [hr.out]
            exact ⟨(HMw.out.setCell (p := ⟨w.heap.size, 0, none⟩) (.inr (Nat.le_refl _)) _).setCell (p := ⟨w.heap.size, 1, none⟩) (.inr (Nat.le_refl _)) _, rfl⟩
          have hxbb : decide ((549755813888 : Int) < x) = false := decide_eq_false (by omega)
          have hwx := IntWalk.i64_in (x : Int) (by omega)
          have HN9 := Lib.hid (Blk.new w8 #[.int .i64 (x : Int)] 3)
          have HO9 := Lib.hid (HO8.out.alloc (.cells #[.int .i64 (x : Int)] 3))
          clear z20 z21 z22 z23 y0 y1
          have hs8 := HM8.out.size
          go_wp2_with (at_builtin; refine wpList_append_own _ rfl _ _ 26 rfl w6.heap.size 3 i0 _ 1 8 Try.underlying26 hi0 hx0 hx1 hx2 rfl (by decide) _ _ _ rfl HO9.out ⟨w8.heap.size, 0, none⟩ 1 1 [.int .i64 (x : Int)] rfl rfl (new_one HN9.out) (by simp [Value.oneCell']) (by unfold maxLen; omega) (by omega) (by simp; omega) ?_; intro v' w10 hown' hgrow hnil; clear hnil; have HO10 := Lib.hid hown'; have HG10 := Lib.hid hgrow; clear hown' hgrow; obtain ⟨a10, c10, hv10⟩ := Rw.own_slice HO10.out; subst hv10)
          have HSN : Hid (rdL 549755813888 (j + 1) u.next = ((rdL 549755813888 j u.next).1 ++ [(x : Int)], u2.next)) := Lib.hid (by
            show ((rdL 549755813888 j u.next).1 ++ [capN 549755813888 (rdL 549755813888 j u.next).2.n], (rdL 549755813888 j u.next).2.next) = _
            rw [HU2.out]
            unfold capN
            rw [HX.out, if_neg hxb])
          go_roundw
          case rel =>
            refine ⟨j + 1, a10, c10, rfl, by go_num, by omega, ?_, ?_, ?_⟩
            · exact ((HMI.out.trans HM8.out (by simp)).alloc _).grown HG10.out (fun k hk => .inr (own_ge HO9.out k hk))
            · rw [HSN.out]
              exact Rw.blk_grown (HB8.out.alloc (.cells #[.int .i64 (x : Int)] 3)) HG10.out (fun e => by obtain ⟨cur, hb⟩ := own_blk HO9.out _ e.symm; exact blk_ne hb (HB8.out.alloc (.cells #[.int .i64 (x : Int)] 3)) (by decide) rfl)
            · rw [HSN.out, List.map_append]
              exact HO10.out
          case measure => simp [intOf]; omega
        · obtain rfl : j = many := by omega
          have hjj : (j : Int) ≤ j := by omega
          obtain ⟨xs, hxs⟩ : ∃ xs, (rdL 549755813888 j u.next).1 = xs := ⟨_, rfl⟩
          have hxl : xs.length = j := by rw [← hxs]; exact rdL_len _ _ _
          have HXL := Lib.hid hxl
          have HXS := Lib.hid hxs
          rw [hxs] at HOI
          have MC := Lib.hid (rmay_calls xs (.slice pa j pc) wi (ints_own (by rw [HXL.out]; exact HOI.out)) (by omega))
          have HMo := Lib.hid (HM6.out.trans HMI.out (by simp))
          clear hxs hxl
          by_cases hmay : mayB xs = true
          · rw [hmay] at MC
            have HRD1 : Hid (rowsD (i + 1) t2 = some (l ++ [xs], (rdL 549755813888 j u.next).2)) := Lib.hid (by
              unfold rowsD
              rw [HRD.out]
              simp only
              rw [HRW.out, HXS.out, if_pos hmay])
            have HNE := Lib.hid (mayB_ne hmay)
            go_wp2_with fail
            (with_reducible refine MC.out.mono ?_)
            rintro e w9 ⟨rfl, hm9⟩
            have HM9 := Lib.hid (HMo.out.trans0 hm9)
            have HB69 := Lib.hid (HBI.out.mod hm9 (by simp))
            have HP9 := Lib.hid (own_mod HOI.out hm9 (by simp))
            have HK89 := Lib.hid (HK8.out.mod HM9.out (by simpa using (blk_ne HK8.out HK6.out (by decide))))
            have HK29 := Lib.hid (HK2.out.mod HM9.out (by simp; omega))
            have HO9 := Lib.hid (own_mod HO.out HM9.out (fun k hk => by obtain ⟨cur, hb⟩ := own_blk HO.out k hk; simpa using blk_ne hb HK6.out (by decide)))
            have HKI9 : Hid (KeptT (fun t => t = tI) wo w9) := Lib.hid (by
              rintro k cs t hk rfl
              exact hk.mod HM9.out (by simpa using blk_ne hk HK6.out (by decide)))
            have b81 := HK89.out.cell 1
            have HN10 := Lib.hid (Blk.new w9 #[.slice pa j pc] 26)
            have HO10 := Lib.hid (HO9.out.alloc (.cells #[.slice pa j pc] 26))
            have HB810 := Lib.hid (HK89.out.alloc (.cells #[.slice pa j pc] 26))
            have hg89 : g8 + 1 ≤ w9.heap.size := HK89.out.lt
            clear hm9 HMI HOI HBI HM6 HK66 HK26 MC HMo
            go_wp2_with (at_builtin; refine wpList_append_own _ rfl _ _ 55 rfl (g8 + 1) 26 i1 _ 1 24 Try.underlying55 hi1 hy0 hy1 hy2 rfl (by decide) _ _ _ rfl HO10.out ⟨w9.heap.size, 0, none⟩ 1 1 [.slice pa j pc] rfl rfl (new_one HN10.out) (by simp [Value.oneCell']) (by unfold maxLen; omega) (by omega) (by simp; omega) ?_; intro v' w11 hown' hgrow hnil; clear hnil; have HO11 := Lib.hid hown'; have HG11 := Lib.hid hgrow; clear hown' hgrow; obtain ⟨a11, c11, hv11⟩ := Rw.own_slice HO11.out; subst hv11; have HB811 := Lib.hid (Rw.blk_grown HB810.out HG11.out (fun e => by obtain ⟨cur, hb⟩ := own_blk HO10.out _ e.symm; exact blk_ne hb HB810.out (by decide) rfl)); have g1 := HB811.out.cell 1; have k1 := HB811.out.free 1)
            have HKI : Hid (∀ k cs t, Blk w9 k cs t → t ≠ tR → k ≠ g8 → Blk (w11.setCell ⟨g8, 1, none⟩ (.slice a11 (i + 1) c11)) k cs t) := Lib.hid (fun k cs t hk ht hne => by
              have h2 := hk.alloc (.cells #[.slice pa j pc] 26)
              exact (Rw.blk_grown h2 HG11.out (fun e => by obtain ⟨cur, hb⟩ := own_blk HO10.out _ e.symm; exact blk_ne hb h2 (fun h => ht h.symm) rfl)).far (p := ⟨g8, 1, none⟩) hne _)
            have HT : Hid (KeptT (fun t => t = tI) w9 (w11.setCell ⟨g8, 1, none⟩ (.slice a11 (i + 1) c11))) := Lib.hid (by
              rintro k cs t hk rfl
              exact HKI.out k cs _ hk (by decide) (blk_ne hk HK89.out (by decide)))
            have HMf : Hid (Mod w (w11.setCell ⟨g8, 1, none⟩ (.slice a11 (i + 1) c11)) []) := Lib.hid
              (((HM.out.trans HM9.out (by simp; omega)).alloc _).grown HG11.out (fun k hk => .inr (by have := own_ge HO10.out k hk; omega)) |>.setCell (p := ⟨g8, 1, none⟩) (.inr (by show w.heap.size ≤ g8; omega)) _)
            go_roundw
            case rel =>
                refine ⟨i + 1, l ++ [xs], (rdL 549755813888 j u.next).2, .slice a11 (i + 1) c11, us ++ [.slice pa j pc], by go_num, by omega, HRD1.out, Nat.le_trans (rdL_size _ _ _) (Nat.le_trans hu1 hus), HMf.out, ?_, ?_, HB811.out.set 1 _, ?_, ?_⟩
                · exact HKI.out _ _ _ HK29.out (by decide) (by omega)
                · exact HKI.out _ _ _ HB69.out (by decide) (blk_ne HB69.out HK89.out (by decide))
                · exact own_putB HO11.out (fun k hk => by obtain ⟨cur, hb⟩ := own_blk HO11.out k hk; exact blk_ne hb HB811.out (by decide))
                · refine all2_snoc ?_ (all2_mono (fun u xs h => (h.keptI HKI9.out).keptI HT.out) HR.out)
                  have hp : IntsQ 0 w9 (.slice pa j pc) xs := by
                    rcases own_cell HP9.out with ⟨_, h0, _⟩ | ⟨g, cap, hv, _, h2, _, _, h4⟩
                    · exact absurd (List.eq_nil_of_length_eq_zero (by rw [HXL.out]; exact h0)) HNE.out
                    · obtain ⟨cur, hb⟩ := own_blk HP9.out g (by rw [hv]; rfl)
                      refine .inr ⟨g, 0, cap, by rw [hv, HXL.out], by rw [HXL.out]; exact h2, .inr ⟨cur, hb⟩, fun q hq => ?_⟩
                      rw [Nat.zero_add, h4 q (by simpa using hq), List.getElem_map, gi_eq hq]
                  exact hp.keptI HT.out
            case measure => simp [intOf]; omega
          · have hmay' : mayB xs = false := by simpa using hmay
            rw [hmay'] at MC
            have hr := Lib.hid (show R = none by rw [HLD.out, rows_fail HRD.out (by rw [HRW.out, HXS.out]; exact hmay') hlt])
            go_wp2_with fail
            (with_reducible refine MC.out.mono ?_)
            rintro e w9 ⟨rfl, hm9⟩
            have HM9 := Lib.hid (HMo.out.trans0 hm9)
            have HK29 := Lib.hid (HK2.out.mod HM9.out (by simp; omega))
            have HMw := Lib.hid (HM.out.trans HM9.out (by simp; omega))
            have z20 := HK29.out.cell 0
            have z21 := HK29.out.cell 1
            have z22 := HK29.out.free 0
            have z23 := HK29.out.free 1
            clear hm9
            go_wp2_with fail
            have q := two_cells HK29.out (.int .i64 0) (.slice none 0 0)
            have q0 := q.cell 0
            have q1 := q.cell 1
            refine bodyPost_ret (v := .tuple #[.agg #[.int .i64 0, .slice none 0 0], .int .i64 3]) (by simp [results, Try.results36, go_sem, q0, q1]) rfl ?_
            rw [hr.out]
            exact ⟨(HMw.out.setCell (p := ⟨w.heap.size, 0, none⟩) (.inr (Nat.le_refl _)) _).setCell (p := ⟨w.heap.size, 1, none⟩) (.inr (Nat.le_refl _)) _, rfl⟩
    · obtain rfl : i = nn := by omega
      have hii : (i : Int) ≤ i := by omega
      have hll : l.length = i := (rowsD_len HRD.out).1
      have EC := Lib.hid (rEnd_calls u.s u.e wo)
      have HRES : Hid (R = if endE u.s u.e = 0 ∧ (nb : Int) + l.length ≤ 549755813888 then some ((nb : Int), l) else none) := Lib.hid (by rw [HLD.out, HRD.out])
      have HLL := Lib.hid hll
      generalize endE u.s u.e = ee at *
      clear hll
      by_cases h1 : ee = 0
      · subst h1
        by_cases h4 : 549755813888 - (i : Int) < (nb : Int)
        · have hr := Lib.hid (show R = none by rw [HRES.out, HLL.out, if_neg (by omega)])
          go_wp2_with fail
          (with_reducible refine EC.out.mono ?_)
          rintro e w5 ⟨rfl, hm5⟩
          have HK25 := Lib.hid (HK2.out.mod hm5 (by simp))
          have HMw := Lib.hid (HM.out.trans0 hm5)
          have HK85 := Lib.hid (HK8.out.mod hm5 (by simp))
          have z20 := HK25.out.cell 0
          have z21 := HK25.out.cell 1
          have z22 := HK25.out.free 0
          have z23 := HK25.out.free 1
          have b80 := HK85.out.cell 0
          have b81 := HK85.out.cell 1
          clear hm5
          go_wp2_with fail
          have q := two_cells HK25.out (.int .i64 0) (.slice none 0 0)
          have q0 := q.cell 0
          have q1 := q.cell 1
          refine bodyPost_ret (v := .tuple #[.agg #[.int .i64 0, .slice none 0 0], .int .i64 3]) (by simp [results, Try.results36, go_sem, q0, q1]) rfl ?_
          rw [hr.out]
          exact ⟨(HMw.out.setCell (p := ⟨w.heap.size, 0, none⟩) (.inr (Nat.le_refl _)) _).setCell (p := ⟨w.heap.size, 1, none⟩) (.inr (Nat.le_refl _)) _, rfl⟩
        · have h4' : decide (549755813888 - (i : Int) < (nb : Int)) = false := decide_eq_false h4
          have hr := Lib.hid (show R = some ((nb : Int), l) by rw [HRES.out, HLL.out, if_pos (by omega)])
          go_wp2_with fail
          (with_reducible refine EC.out.mono ?_)
          rintro e w5 ⟨rfl, hm5⟩
          have HK25 := Lib.hid (HK2.out.mod hm5 (by simp))
          have HMw := Lib.hid (HM.out.trans0 hm5)
          have HK85 := Lib.hid (HK8.out.mod hm5 (by simp))
          have HRR : Hid (RrAt 0 w5 (.slice va i vc) l) := Lib.hid ((RrAt.own (us := us) (by rw [all2_len HR.out, HLL.out]; exact HO.out) HR.out).mod hm5)
          have z20 := HK25.out.cell 0
          have z21 := HK25.out.cell 1
          have z22 := HK25.out.free 0
          have z23 := HK25.out.free 1
          have b80 := HK85.out.cell 0
          have b81 := HK85.out.cell 1
          clear hm5
          go_wp2_with fail
          have q := two_cells HK25.out (.int .i64 (nb : Int)) (.slice va i vc)
          have q0 := q.cell 0
          have q1 := q.cell 1
          refine bodyPost_ret (v := .tuple #[.agg #[.int .i64 (nb : Int), .slice va i vc], .int .i64 0]) (by simp [results, Try.results36, go_sem, q0, q1]) rfl ?_
          rw [hr.out]
          refine ⟨(HMw.out.setCell (p := ⟨w.heap.size, 0, none⟩) (.inr (Nat.le_refl _)) _).setCell (p := ⟨w.heap.size, 1, none⟩) (.inr (Nat.le_refl _)) _, _, rfl, ?_⟩
          exact HRR.out.two HK25.out
      · have h1' : (ee != 0) = true := by simpa using h1
        have hr := Lib.hid (show R = none by rw [HRES.out, if_neg (fun h => h1 h.1)])
        go_wp2_with fail
        (with_reducible refine EC.out.mono ?_)
        rintro e w5 ⟨rfl, hm5⟩
        have HK25 := Lib.hid (HK2.out.mod hm5 (by simp))
        have HMw := Lib.hid (HM.out.trans0 hm5)
        have z20 := HK25.out.cell 0
        have z21 := HK25.out.cell 1
        have z22 := HK25.out.free 0
        have z23 := HK25.out.free 1
        clear hm5
        go_wp2_with fail
        have q := two_cells HK25.out (.int .i64 0) (.slice none 0 0)
        have q0 := q.cell 0
        have q1 := q.cell 1
        refine bodyPost_ret (v := .tuple #[.agg #[.int .i64 0, .slice none 0 0], .int .i64 3]) (by simp [results, Try.results36, go_sem, q0, q1]) rfl ?_
        rw [hr.out]
        exact ⟨(HMw.out.setCell (p := ⟨w.heap.size, 0, none⟩) (.inr (Nat.le_refl _)) _).setCell (p := ⟨w.heap.size, 1, none⟩) (.inr (Nat.le_refl _)) _, rfl⟩
end Go.Proofs.Ytceocpohdckkoaa.Bx
