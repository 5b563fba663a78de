/- The law BookReads. (Printed by mkBxB.py.) -/
import Derived.Test.YtceocpohdckkoaaBxA
namespace Go.Proofs.Ytceocpohdckkoaa.Bx
open Go.RowKit Mem
set_option linter.unusedSimpArgs false
set_option linter.unusedVariables false
set_option maxRecDepth 100000

theorem ints_new (w : World) (x : Int) : IntsR (w.alloc (.cells #[.int .i64 x] 3)) (.slice (some ⟨w.heap.size, 0, none⟩) 1 1) [x] := .inr (ints_one w x)
/-- A match put onto a book that counts. -/
theorem put_sq_calls {w : World} {N g : Nat} {base : Int} {n : Nat} {c : Int} (h : BookAt w N (fun _ => False) g base (sq base n)) (hc : c = base + n) (h0 : 0 ≤ base) (h1 : base + n ≤ 1000) (hn : n ≤ 64) (hN : N ≤ w.heap.size) :
    Calls Try.prog 16 #[ptr g, .agg #[.slice (some ⟨w.heap.size, 0, none⟩) 1 1]] (w.alloc (.cells #[.int .i64 c] 3)) fun e w' => ∃ (b' : Int) (n' : Nat), e = .returned (.int .i64 0) ∧ BookAt w' N (fun _ => False) g b' (sq b' n') ∧ Below N w w' ∧ b' + n' = c + 1 ∧ n' ≤ 64 ∧ base ≤ b' := by
  subst hc
  obtain ⟨b', n', e1, e2, e3, e4, _⟩ := put_sq base n h0 (by omega) hn
  have h2 := put_calls (h.mod ((Mod.refl w []).alloc (.cells #[.int .i64 (base + (n : Int))] 3))) (.slice (some ⟨w.heap.size, 0, none⟩) 1 1) [base + (n : Int)] (ints_new w _) (by simp) h0 (by omega) (by rw [sq_len]; exact hn) (fun _ h => h.elim) (by simp; omega)
  rw [e1] at h2
  refine h2.mono ?_
  rintro e w' ⟨r1, r2, r3⟩
  exact ⟨b', n', r1, r2, (below_mod hN ((Mod.refl w []).alloc (.cells #[.int .i64 (base + (n : Int))] 3))).trans r3.below, e2, e3, e4⟩
theorem forget_sq_calls {w : World} {N g : Nat} {base : Int} {n : Nat} {c : Int} (h : BookAt w N (fun _ => False) g base (sq base n)) (hc : c = base + n) (a : Int) (h0 : 0 ≤ base) (h1 : base + n ≤ 1000) (hn : n ≤ 64) (hN : N ≤ w.heap.size) :
    Calls Try.prog 17 #[ptr g, .int .i64 a] w fun e w' => ∃ (r : Int) (b' : Int) (n' : Nat), e = .returned (.int .i64 r) ∧ BookAt w' N (fun _ => False) g b' (sq b' n') ∧ Below N w w' ∧ b' + n' = c ∧ n' ≤ 64 ∧ base ≤ b' := by
  subst hc
  obtain ⟨r, b', n', e1, e2, e3, e4⟩ := forget_sq base n a hn
  have h2 := forget_calls h a h0 (by omega) (by rw [sq_len]; exact hn) hN
  rw [e1] at h2
  refine h2.mono ?_
  rintro e w' ⟨r1, r2, r3⟩
  exact ⟨r, b', n', r1, r2, r3.below, e2, e3, e4⟩
/-- What Read hands out of such a book, match by match. -/
theorem out_get {D : Nat} {A : World} {v : Value} {f : Int} {q : Nat} (h : OutAt D A v (sq f q)) : ∃ ad cap, v = .slice ad q cap ∧ q ≤ cap ∧ (q = 0 ∨ ∃ b, ad = some ⟨b, 0, none⟩ ∧ ∀ k, k < q → ∃ rb rc, A.cell? ⟨b, k, none⟩ = some (slV rb 1 rc) ∧ 1 ≤ rc ∧ A.cell? ⟨rb, 0, none⟩ = some (.int .i64 (f + k))) := by
  obtain ⟨us, ho, hr⟩ := h
  have hl := all2_len hr
  rw [sq_len] at hl
  rcases own_cell ho with ⟨h1, h2, _⟩ | ⟨g, c, hv, _, h2, _, _, h4⟩
  · exact ⟨none, 0, by rw [h1, ← hl, h2], by omega, .inl (by omega)⟩
  · refine ⟨_, c, by rw [hv, hl], by omega, .inr ⟨g, rfl, fun k hk => ?_⟩⟩
    have hk1 : k < us.length := by omega
    have hf := all2_get hr k hk1 (by rw [sq_len]; exact hk)
    rw [sq_get] at hf
    obtain ⟨rb, rc, e1, _, e2, _, e3⟩ := hf.cell
    refine ⟨rb, rc, ?_, by simpa using e2, e3 0 (by simp)⟩
    rw [h4 k hk1, e1]
    rfl

set_option maxHeartbeats 16000000 in
theorem bookReads_calls (w : World) (a : Value) (ha : Open.Rd w (.sl bactSh 48) [a]) (f : Int) (hf : (Lit.int .i64 f).wf = true) :
    Calls Try.prog 3 #[a, .int .i64 f] w fun e w' => e = .returned (.bool true) ∧ Below w.heap.size w w' := by
  obtain ⟨l, ad, acap, rfl, hlc, hal, hacs, hac⟩ := acts_rd ha
  obtain ⟨hf0, hf1⟩ := i64_of hf
  have AW := Lib.hid awake_calls
  have NW := Lib.hid new_calls
  have HAC := Lib.hid hac
  have HACS := Lib.hid hacs
  have hal' : (l.length : Int) ≤ 140737488351232 := by omega
  have hlc' : (l.length : Int) ≤ acap := by omega
  clear ha hac hacs hf
  by_cases hneg : f < 0
  · go_enter Try.func3, Try.ntmps3
    go_wp2_with fail
    (with_reducible refine (NW.out _).mono ?_)
    rintro e w1 ⟨rfl, hm1, -⟩
    have HM1 := Lib.hid hm1
    clear hm1
    go_wp2_with fail
    (with_reducible refine (AW.out _).mono ?_)
    rintro e w2 ⟨rfl, hm2⟩
    have HM2 := Lib.hid (HM1.out.trans0 hm2)
    clear hm2
    go_wp2_with fail
    (with_reducible refine (AW.out _).mono ?_)
    rintro e w3 ⟨rfl, hm3⟩
    have HM3 := Lib.hid (HM2.out.trans0 hm3)
    clear hm3
    go_wp2_with fail
    go_ret
    exact ⟨rfl, HM3.out.below0⟩
  have hpos : 0 ≤ f := by omega
  have hnegb : decide (f < 0) = false := decide_eq_false hneg
  go_enter Try.func3, Try.ntmps3
  go_wp2_with fail
  (with_reducible refine (NW.out _).mono ?_)
  rintro e w1 ⟨rfl, hm1, hk1⟩
  have HM1 := Lib.hid hm1
  have HK1 := Lib.hid hk1
  clear hm1 hk1
  go_wp2_with fail
  (with_reducible refine (AW.out _).mono ?_)
  rintro e w2 ⟨rfl, hm2⟩
  have HB2 := Lib.hid ((HM1.out.trans0 hm2).below0)
  have HK2 := Lib.hid (HK1.out.mod hm2)
  clear hm2 HM1 HK1 NW AW
  go_wp2_with fail
  go_loopw [6, 7, 8] (fun va vc vi wr => ∃ (i : Nat) (at_ c base : Int) (n : Nat), va = .int .i64 at_ ∧ vc = .int .i64 c ∧ vi = .int .i64 (i : Int) ∧ i ≤ 200 ∧ i ≤ l.length ∧ 0 ≤ at_ ∧ at_ ≤ 9223372036854775807 ∧ 0 ≤ base ∧ c = base + n ∧ c ≤ i ∧ n ≤ 64 ∧ Below w.heap.size w wr ∧ BookAt wr w.heap.size (fun _ => False) w.heap.size base (sq base n)) (fun _ _ vi _ => 201 - (intOf vi).toNat)
  case atStart => exact ⟨0, f, 0, 0, 0, rfl, rfl, rfl, by omega, by omega, hpos, hf1, by omega, by simp, by omega, by omega, HB2.out, HK2.out⟩
  case round =>
    obtain ⟨i, at_, c, base, n, rfl, rfl, rfl, hi, hil, ha0, ha1, hb0, hc, hci, hn, hbl, hbk⟩ := hrel
    have HB := Lib.hid hbl
    have HK := Lib.hid hbk
    have HC := Lib.hid hc
    have hsz := hbl.size
    clear hbl hbk HB2 HK2 hc
    by_cases hgo : i < l.length ∧ i < 200
    · obtain ⟨hlt, h200⟩ := hgo
      have hlt' : (i : Int) < l.length := by omega
      have h200' : (i : Int) < 200 := by omega
      obtain ⟨bb, off, rfl, hcs⟩ := HAC.out.resolve_left (fun h => by rw [h] at hlt; simp at hlt)
      have HXA := Lib.hid (HACS.out _ (List.getElem_mem hlt))
      have HE : Hid (∀ y, Below w.heap.size w y → y.cell? ⟨bb, off + i * 4, none⟩ = some (.int .i64 l[i].k) ∧ y.cell? ⟨bb, off + i * 4 + 1, none⟩ = some (.int .i64 l[i].a) ∧ y.cell? ⟨bb, off + i * 4 + 2, none⟩ = some (.int .i64 l[i].b)) := Lib.hid (fun y hy => by
        have hk := Kept.mod (Mod.of_below hy)
        obtain ⟨d0, d1, d2, _⟩ := hcs i hlt
        exact ⟨hk.cell d0, hk.cell d1, hk.cell d2⟩)
      clear hcs
      generalize l[i]'hlt = x at *
      obtain ⟨xk, xa, xb, xu, xs⟩ := x
      simp only at HE HXA
      obtain ⟨-, ⟨hxa0, hxa1⟩, ⟨hxb0, hxb1⟩, -⟩ := HXA.out
      clear HXA
      obtain ⟨e0, e1, e2⟩ := HE.out _ HB.out
      by_cases hk0 : xk = 0
      · subst hk0
        have PC := Lib.hid (put_sq_calls HK.out HC.out hb0 (by have := HC.out; omega) hn hsz)
        go_wp2_with fail
        refine PC.out.mono ?_
        rintro e w4 ⟨b4, n4, rfl, hk4, hb4, hc4, hn4, hbb4⟩
        have HKs := Lib.hid hk4
        have HBs := Lib.hid (HB.out.trans hb4)
        have HCs := Lib.hid hc4.symm
        have HNS := Lib.hid hn4
        have hcle : c + 1 ≤ 1000 := by omega
        have hc0 : 0 ≤ c := by have := HC.out; omega
        clear hk4 hb4 hc4 hn4 HK HB HC PC e0 e1 e2
        obtain ⟨c4, hc4⟩ : ∃ c4, c + 1 = c4 := ⟨_, rfl⟩
        rw [hc4] at HCs
        have HCs2 := Lib.hid (show c4 = b4 + (n4 : Int) from HCs.out)
        have hbs0 : 0 ≤ b4 := by omega
        have hbs1 : b4 ≤ 1000 := by have := HCs2.out; omega
        have hbsn : b4 + (n4 : Int) ≤ 1000 := by have := HCs2.out; omega
        have hszs := HBs.out.size
        have hcs1 : c4 ≤ (i : Int) + 1 := by omega
        have hns := HNS.out
        obtain ⟨f0, f1, f2⟩ := HE.out _ HBs.out
        by_cases hB : xb < 0
        · have RC : Hid (Calls Try.prog 18 #[ptr w.heap.size, .int .i64 at_, .int .i64 xb] w4 fun e w' => ∃ v, e = .returned (.tuple #[v, .int .i64 0, .int .i64 1]) ∧ Mod w4 w' [] ∧ OutAt w4.heap.size w' v []) := Lib.hid (read_arg at_ xb (.inr hB))
          go_wp2_with fail
          refine RC.out.mono ?_
          rintro e w5 ⟨v5, rfl, hm5, us5, ho5, hr5⟩
          obtain rfl : us5 = [] := List.eq_nil_of_length_eq_zero (by simpa using all2_len hr5)
          obtain ⟨a5, c5, rfl⟩ := Rw.own_slice ho5
          have HB5 := Lib.hid (HBs.out.trans (below_mod hszs hm5))
          have HK5 := Lib.hid (HKs.out.mod hm5)
          clear hm5 ho5 hr5 RC f0 f1 f2
          obtain ⟨g0, g1, g2⟩ := HE.out _ HB5.out
          go_wp2_with fail
          go_roundw
          case rel => exact ⟨i + 1, at_, c4, b4, n4, rfl, rfl, by go_num, by omega, by omega, ha0, ha1, hbs0, HCs2.out, by push_cast; omega, hns, HB5.out, HK5.out⟩
          case measure => simp [intOf]; omega
        have hB0 : 0 ≤ xb := by omega
        have hBb : decide (xb < 0) = false := decide_eq_false hB
        by_cases hat : at_ < b4
        · have RC : Hid (Calls Try.prog 18 #[ptr w.heap.size, .int .i64 at_, .int .i64 xb] w4 fun e w' => ∃ v, e = .returned (.tuple #[v, .int .i64 b4, .int .i64 180]) ∧ Mod w4 w' [] ∧ OutAt w4.heap.size w' v []) := Lib.hid (read_gone HKs.out at_ xb ha0 hB0 hat)
          go_wp2_with fail
          refine RC.out.mono ?_
          rintro e w5 ⟨v5, rfl, hm5, us5, ho5, hr5⟩
          obtain rfl : us5 = [] := List.eq_nil_of_length_eq_zero (by simpa using all2_len hr5)
          obtain ⟨a5, c5, rfl⟩ := Rw.own_slice ho5
          have HB5 := Lib.hid (HBs.out.trans (below_mod hszs hm5))
          have HK5 := Lib.hid (HKs.out.mod hm5)
          have BC := Lib.hid (fun (_ : Unit) => base_calls HK5.out)
          clear hm5 ho5 hr5 RC f0 f1 f2
          obtain ⟨g0, g1, g2⟩ := HE.out _ HB5.out
          have hn1 : decide (b4 ≤ at_) = false := decide_eq_false (by omega)
          have hn2 : decide (c4 < b4) = false := decide_eq_false (by have := HCs2.out; omega)
          go_wp2_with fail
          (with_reducible refine (BC.out ()).mono ?_)
          rintro e w6 ⟨rfl, rfl⟩
          clear BC
          go_wp2_with fail
          go_roundw
          case rel => exact ⟨i + 1, b4, c4, b4, n4, rfl, rfl, by go_num, by omega, by omega, hbs0, by omega, hbs0, HCs2.out, by push_cast; omega, hns, HB5.out, HK5.out⟩
          case measure => simp [intOf]; omega
        have hat' : b4 ≤ at_ := by omega
        obtain ⟨q, hq1, hq2, hq3, hq4, hq5⟩ := read_sq b4 n4 at_ xb hbs0 hat' hB0
        have RC : Hid (Calls Try.prog 18 #[ptr w.heap.size, .int .i64 at_, .int .i64 xb] w4 fun e w' => ∃ v, e = .returned (.tuple #[v, .int .i64 (at_ + q), .int .i64 0]) ∧ Mod w4 w' [] ∧ OutAt w4.heap.size w' v (sq at_ q)) := Lib.hid (by
          have h := read_calls HKs.out at_ xb ha1 hxb1 hbs0 (by omega) (by rw [sq_len]; exact hns) (sq_16 _ _)
          rw [hq1] at h
          exact h)
        have hq3' : Hid ((q : Int) < xb → c4 ≤ at_ + q) := Lib.hid (fun h => by have := hq3 h; have := HCs2.out; omega)
        have hq4' : at_ + (q : Int) ≤ 9223372036854775807 := by omega
        have hq5' : (q : Int) ≤ 64 := by omega
        clear hq1 hq3 hq4
        go_wp2_with fail
        refine RC.out.mono ?_
        rintro e w5 ⟨v5, rfl, hm5, ho5⟩
        obtain ⟨a5, c5, rfl, hqc, hout⟩ := out_get ho5
        have HOUT := Lib.hid hout
        have HB5 := Lib.hid (HBs.out.trans (below_mod hszs hm5))
        have HK5 := Lib.hid (HKs.out.mod hm5)
        clear hm5 ho5 RC f0 f1 f2 hout
        obtain ⟨g0, g1, g2⟩ := HE.out _ HB5.out
        have hn1 : decide (xb < (q : Int)) = false := decide_eq_false (by omega)
        have hqc' : (q : Int) ≤ c5 := by omega
        have hend : Hid ((q : Int) < xb ∧ decide (at_ + (q : Int) < c4) = false ∨ decide ((q : Int) < xb) = false) := Lib.hid (by
          by_cases h : (q : Int) < xb
          · exact .inl ⟨h, decide_eq_false (by have := hq3'.out h; omega)⟩
          · exact .inr (decide_eq_false h))
        have INNER : Hid True := Lib.hid trivial
        rcases hend.out with ⟨hx1, hx2⟩ | hx1
        · clear hend hq3'
          go_wp2_with fail
          go_loop [12] (fun vk => ∃ k : Nat, k ≤ q ∧ vk = .int .i64 (k : Int)) (fun vk => q + 1 - (intOf vk).toNat)
          case atStart => exact ⟨0, Nat.zero_le _, rfl⟩
          case round =>
            obtain ⟨k, hk, rfl⟩ := hrel
            by_cases hkq : k < q
            · have hkq' : (k : Int) < q := by omega
              obtain ⟨ob, rfl, hcell⟩ := HOUT.out.resolve_left (by omega)
              obtain ⟨rb, rc, p0, hrc, p1⟩ := hcell k hkq
              have hrc' : (1 : Int) ≤ rc := by omega
              have hak : at_ + (k : Int) ≤ 9223372036854775807 := by omega
              clear hcell
              go_wp2_with fail
              go_round
              case rel => exact ⟨k + 1, by omega, by go_num⟩
              case measure => simp [intOf]; omega
            · have hkq' : (q : Int) ≤ k := by omega
              go_wp2_with fail
              go_roundw
              case rel => exact ⟨i + 1, at_ + q, c4, b4, n4, rfl, rfl, by go_num, by omega, by omega, by omega, hq4', hbs0, HCs2.out, by push_cast; omega, hns, HB5.out, HK5.out⟩
              case measure => simp [intOf]; omega
        · clear hend hq3'
          go_wp2_with fail
          go_loop [12] (fun vk => ∃ k : Nat, k ≤ q ∧ vk = .int .i64 (k : Int)) (fun vk => q + 1 - (intOf vk).toNat)
          case atStart => exact ⟨0, Nat.zero_le _, rfl⟩
          case round =>
            obtain ⟨k, hk, rfl⟩ := hrel
            by_cases hkq : k < q
            · have hkq' : (k : Int) < q := by omega
              obtain ⟨ob, rfl, hcell⟩ := HOUT.out.resolve_left (by omega)
              obtain ⟨rb, rc, p0, hrc, p1⟩ := hcell k hkq
              have hrc' : (1 : Int) ≤ rc := by omega
              have hak : at_ + (k : Int) ≤ 9223372036854775807 := by omega
              clear hcell
              go_wp2_with fail
              go_round
              case rel => exact ⟨k + 1, by omega, by go_num⟩
              case measure => simp [intOf]; omega
            · have hkq' : (q : Int) ≤ k := by omega
              go_wp2_with fail
              go_roundw
              case rel => exact ⟨i + 1, at_ + q, c4, b4, n4, rfl, rfl, by go_num, by omega, by omega, by omega, hq4', hbs0, HCs2.out, by push_cast; omega, hns, HB5.out, HK5.out⟩
              case measure => simp [intOf]; omega
      by_cases hk2 : xk = 2
      · subst hk2
        have FC := Lib.hid (forget_sq_calls HK.out HC.out xa hb0 (by have := HC.out; omega) hn hsz)
        go_wp2_with fail
        refine FC.out.mono ?_
        rintro e w4 ⟨r4, b4, n4, rfl, hk4, hb4, hc4, hn4, hbb4⟩
        have HKs := Lib.hid hk4
        have HBs := Lib.hid (HB.out.trans hb4)
        have HCs := Lib.hid hc4.symm
        have HNS := Lib.hid hn4
        clear hk4 hb4 hc4 hn4 HK HB HC FC e0 e1 e2
        have HCs2 := Lib.hid (show c = b4 + (n4 : Int) from HCs.out)
        have hbs0 : 0 ≤ b4 := by omega
        have hbs1 : b4 ≤ 1000 := by have := HCs2.out; omega
        have hbsn : b4 + (n4 : Int) ≤ 1000 := by have := HCs2.out; omega
        have hszs := HBs.out.size
        have hcs1 : c ≤ (i : Int) + 1 := by omega
        have hns := HNS.out
        obtain ⟨f0, f1, f2⟩ := HE.out _ HBs.out
        by_cases hB : xb < 0
        · have RC : Hid (Calls Try.prog 18 #[ptr w.heap.size, .int .i64 at_, .int .i64 xb] w4 fun e w' => ∃ v, e = .returned (.tuple #[v, .int .i64 0, .int .i64 1]) ∧ Mod w4 w' [] ∧ OutAt w4.heap.size w' v []) := Lib.hid (read_arg at_ xb (.inr hB))
          go_wp2_with fail
          refine RC.out.mono ?_
          rintro e w5 ⟨v5, rfl, hm5, us5, ho5, hr5⟩
          obtain rfl : us5 = [] := List.eq_nil_of_length_eq_zero (by simpa using all2_len hr5)
          obtain ⟨a5, c5, rfl⟩ := Rw.own_slice ho5
          have HB5 := Lib.hid (HBs.out.trans (below_mod hszs hm5))
          have HK5 := Lib.hid (HKs.out.mod hm5)
          clear hm5 ho5 hr5 RC f0 f1 f2
          obtain ⟨g0, g1, g2⟩ := HE.out _ HB5.out
          go_wp2_with fail
          go_roundw
          case rel => exact ⟨i + 1, at_, c, b4, n4, rfl, rfl, by go_num, by omega, by omega, ha0, ha1, hbs0, HCs2.out, by push_cast; omega, hns, HB5.out, HK5.out⟩
          case measure => simp [intOf]; omega
        have hB0 : 0 ≤ xb := by omega
        have hBb : decide (xb < 0) = false := decide_eq_false hB
        by_cases hat : at_ < b4
        · have RC : Hid (Calls Try.prog 18 #[ptr w.heap.size, .int .i64 at_, .int .i64 xb] w4 fun e w' => ∃ v, e = .returned (.tuple #[v, .int .i64 b4, .int .i64 180]) ∧ Mod w4 w' [] ∧ OutAt w4.heap.size w' v []) := Lib.hid (read_gone HKs.out at_ xb ha0 hB0 hat)
          go_wp2_with fail
          refine RC.out.mono ?_
          rintro e w5 ⟨v5, rfl, hm5, us5, ho5, hr5⟩
          obtain rfl : us5 = [] := List.eq_nil_of_length_eq_zero (by simpa using all2_len hr5)
          obtain ⟨a5, c5, rfl⟩ := Rw.own_slice ho5
          have HB5 := Lib.hid (HBs.out.trans (below_mod hszs hm5))
          have HK5 := Lib.hid (HKs.out.mod hm5)
          have BC := Lib.hid (fun (_ : Unit) => base_calls HK5.out)
          clear hm5 ho5 hr5 RC f0 f1 f2
          obtain ⟨g0, g1, g2⟩ := HE.out _ HB5.out
          have hn1 : decide (b4 ≤ at_) = false := decide_eq_false (by omega)
          have hn2 : decide (c < b4) = false := decide_eq_false (by have := HCs2.out; omega)
          go_wp2_with fail
          (with_reducible refine (BC.out ()).mono ?_)
          rintro e w6 ⟨rfl, rfl⟩
          clear BC
          go_wp2_with fail
          go_roundw
          case rel => exact ⟨i + 1, b4, c, b4, n4, rfl, rfl, by go_num, by omega, by omega, hbs0, by omega, hbs0, HCs2.out, by push_cast; omega, hns, HB5.out, HK5.out⟩
          case measure => simp [intOf]; omega
        have hat' : b4 ≤ at_ := by omega
        obtain ⟨q, hq1, hq2, hq3, hq4, hq5⟩ := read_sq b4 n4 at_ xb hbs0 hat' hB0
        have RC : Hid (Calls Try.prog 18 #[ptr w.heap.size, .int .i64 at_, .int .i64 xb] w4 fun e w' => ∃ v, e = .returned (.tuple #[v, .int .i64 (at_ + q), .int .i64 0]) ∧ Mod w4 w' [] ∧ OutAt w4.heap.size w' v (sq at_ q)) := Lib.hid (by
          have h := read_calls HKs.out at_ xb ha1 hxb1 hbs0 (by omega) (by rw [sq_len]; exact hns) (sq_16 _ _)
          rw [hq1] at h
          exact h)
        have hq3' : Hid ((q : Int) < xb → c ≤ at_ + q) := Lib.hid (fun h => by have := hq3 h; have := HCs2.out; omega)
        have hq4' : at_ + (q : Int) ≤ 9223372036854775807 := by omega
        have hq5' : (q : Int) ≤ 64 := by omega
        clear hq1 hq3 hq4
        go_wp2_with fail
        refine RC.out.mono ?_
        rintro e w5 ⟨v5, rfl, hm5, ho5⟩
        obtain ⟨a5, c5, rfl, hqc, hout⟩ := out_get ho5
        have HOUT := Lib.hid hout
        have HB5 := Lib.hid (HBs.out.trans (below_mod hszs hm5))
        have HK5 := Lib.hid (HKs.out.mod hm5)
        clear hm5 ho5 RC f0 f1 f2 hout
        obtain ⟨g0, g1, g2⟩ := HE.out _ HB5.out
        have hn1 : decide (xb < (q : Int)) = false := decide_eq_false (by omega)
        have hqc' : (q : Int) ≤ c5 := by omega
        have hend : Hid ((q : Int) < xb ∧ decide (at_ + (q : Int) < c) = false ∨ decide ((q : Int) < xb) = false) := Lib.hid (by
          by_cases h : (q : Int) < xb
          · exact .inl ⟨h, decide_eq_false (by have := hq3'.out h; omega)⟩
          · exact .inr (decide_eq_false h))
        have INNER : Hid True := Lib.hid trivial
        rcases hend.out with ⟨hx1, hx2⟩ | hx1
        · clear hend hq3'
          go_wp2_with fail
          go_loop [12] (fun vk => ∃ k : Nat, k ≤ q ∧ vk = .int .i64 (k : Int)) (fun vk => q + 1 - (intOf vk).toNat)
          case atStart => exact ⟨0, Nat.zero_le _, rfl⟩
          case round =>
            obtain ⟨k, hk, rfl⟩ := hrel
            by_cases hkq : k < q
            · have hkq' : (k : Int) < q := by omega
              obtain ⟨ob, rfl, hcell⟩ := HOUT.out.resolve_left (by omega)
              obtain ⟨rb, rc, p0, hrc, p1⟩ := hcell k hkq
              have hrc' : (1 : Int) ≤ rc := by omega
              have hak : at_ + (k : Int) ≤ 9223372036854775807 := by omega
              clear hcell
              go_wp2_with fail
              go_round
              case rel => exact ⟨k + 1, by omega, by go_num⟩
              case measure => simp [intOf]; omega
            · have hkq' : (q : Int) ≤ k := by omega
              go_wp2_with fail
              go_roundw
              case rel => exact ⟨i + 1, at_ + q, c, b4, n4, rfl, rfl, by go_num, by omega, by omega, by omega, hq4', hbs0, HCs2.out, by push_cast; omega, hns, HB5.out, HK5.out⟩
              case measure => simp [intOf]; omega
        · clear hend hq3'
          go_wp2_with fail
          go_loop [12] (fun vk => ∃ k : Nat, k ≤ q ∧ vk = .int .i64 (k : Int)) (fun vk => q + 1 - (intOf vk).toNat)
          case atStart => exact ⟨0, Nat.zero_le _, rfl⟩
          case round =>
            obtain ⟨k, hk, rfl⟩ := hrel
            by_cases hkq : k < q
            · have hkq' : (k : Int) < q := by omega
              obtain ⟨ob, rfl, hcell⟩ := HOUT.out.resolve_left (by omega)
              obtain ⟨rb, rc, p0, hrc, p1⟩ := hcell k hkq
              have hrc' : (1 : Int) ≤ rc := by omega
              have hak : at_ + (k : Int) ≤ 9223372036854775807 := by omega
              clear hcell
              go_wp2_with fail
              go_round
              case rel => exact ⟨k + 1, by omega, by go_num⟩
              case measure => simp [intOf]; omega
            · have hkq' : (q : Int) ≤ k := by omega
              go_wp2_with fail
              go_roundw
              case rel => exact ⟨i + 1, at_ + q, c, b4, n4, rfl, rfl, by go_num, by omega, by omega, by omega, hq4', hbs0, HCs2.out, by push_cast; omega, hns, HB5.out, HK5.out⟩
              case measure => simp [intOf]; omega
      have HKs := HK
      have HBs := HB
      have HCs := HC
      have HNS := Lib.hid hn
      clear HK HB HC e0 e1 e2
      have HCs2 := Lib.hid (show c = base + (n : Int) from HCs.out)
      have hbs0 : 0 ≤ base := by omega
      have hbs1 : base ≤ 1000 := by have := HCs2.out; omega
      have hbsn : base + (n : Int) ≤ 1000 := by have := HCs2.out; omega
      have hszs := HBs.out.size
      have hcs1 : c ≤ (i : Int) + 1 := by omega
      have hns := HNS.out
      obtain ⟨f0, f1, f2⟩ := HE.out _ HBs.out
      by_cases hB : xb < 0
      · have RC : Hid (Calls Try.prog 18 #[ptr w.heap.size, .int .i64 at_, .int .i64 xb] wr fun e w' => ∃ v, e = .returned (.tuple #[v, .int .i64 0, .int .i64 1]) ∧ Mod wr w' [] ∧ OutAt wr.heap.size w' v []) := Lib.hid (read_arg at_ xb (.inr hB))
        go_wp2_with fail
        refine RC.out.mono ?_
        rintro e w5 ⟨v5, rfl, hm5, us5, ho5, hr5⟩
        obtain rfl : us5 = [] := List.eq_nil_of_length_eq_zero (by simpa using all2_len hr5)
        obtain ⟨a5, c5, rfl⟩ := Rw.own_slice ho5
        have HB5 := Lib.hid (HBs.out.trans (below_mod hszs hm5))
        have HK5 := Lib.hid (HKs.out.mod hm5)
        clear hm5 ho5 hr5 RC f0 f1 f2
        obtain ⟨g0, g1, g2⟩ := HE.out _ HB5.out
        go_wp2_with fail
        go_roundw
        case rel => exact ⟨i + 1, at_, c, base, n, rfl, rfl, by go_num, by omega, by omega, ha0, ha1, hbs0, HCs2.out, by push_cast; omega, hns, HB5.out, HK5.out⟩
        case measure => simp [intOf]; omega
      have hB0 : 0 ≤ xb := by omega
      have hBb : decide (xb < 0) = false := decide_eq_false hB
      by_cases hat : at_ < base
      · have RC : Hid (Calls Try.prog 18 #[ptr w.heap.size, .int .i64 at_, .int .i64 xb] wr fun e w' => ∃ v, e = .returned (.tuple #[v, .int .i64 base, .int .i64 180]) ∧ Mod wr w' [] ∧ OutAt wr.heap.size w' v []) := Lib.hid (read_gone HKs.out at_ xb ha0 hB0 hat)
        go_wp2_with fail
        refine RC.out.mono ?_
        rintro e w5 ⟨v5, rfl, hm5, us5, ho5, hr5⟩
        obtain rfl : us5 = [] := List.eq_nil_of_length_eq_zero (by simpa using all2_len hr5)
        obtain ⟨a5, c5, rfl⟩ := Rw.own_slice ho5
        have HB5 := Lib.hid (HBs.out.trans (below_mod hszs hm5))
        have HK5 := Lib.hid (HKs.out.mod hm5)
        have BC := Lib.hid (fun (_ : Unit) => base_calls HK5.out)
        clear hm5 ho5 hr5 RC f0 f1 f2
        obtain ⟨g0, g1, g2⟩ := HE.out _ HB5.out
        have hn1 : decide (base ≤ at_) = false := decide_eq_false (by omega)
        have hn2 : decide (c < base) = false := decide_eq_false (by have := HCs2.out; omega)
        go_wp2_with fail
        (with_reducible refine (BC.out ()).mono ?_)
        rintro e w6 ⟨rfl, rfl⟩
        clear BC
        go_wp2_with fail
        go_roundw
        case rel => exact ⟨i + 1, base, c, base, n, rfl, rfl, by go_num, by omega, by omega, hbs0, by omega, hbs0, HCs2.out, by push_cast; omega, hns, HB5.out, HK5.out⟩
        case measure => simp [intOf]; omega
      have hat' : base ≤ at_ := by omega
      obtain ⟨q, hq1, hq2, hq3, hq4, hq5⟩ := read_sq base n at_ xb hbs0 hat' hB0
      have RC : Hid (Calls Try.prog 18 #[ptr w.heap.size, .int .i64 at_, .int .i64 xb] wr fun e w' => ∃ v, e = .returned (.tuple #[v, .int .i64 (at_ + q), .int .i64 0]) ∧ Mod wr w' [] ∧ OutAt wr.heap.size w' v (sq at_ q)) := Lib.hid (by
        have h := read_calls HKs.out at_ xb ha1 hxb1 hbs0 (by omega) (by rw [sq_len]; exact hns) (sq_16 _ _)
        rw [hq1] at h
        exact h)
      have hq3' : Hid ((q : Int) < xb → c ≤ at_ + q) := Lib.hid (fun h => by have := hq3 h; have := HCs2.out; omega)
      have hq4' : at_ + (q : Int) ≤ 9223372036854775807 := by omega
      have hq5' : (q : Int) ≤ 64 := by omega
      clear hq1 hq3 hq4
      go_wp2_with fail
      refine RC.out.mono ?_
      rintro e w5 ⟨v5, rfl, hm5, ho5⟩
      obtain ⟨a5, c5, rfl, hqc, hout⟩ := out_get ho5
      have HOUT := Lib.hid hout
      have HB5 := Lib.hid (HBs.out.trans (below_mod hszs hm5))
      have HK5 := Lib.hid (HKs.out.mod hm5)
      clear hm5 ho5 RC f0 f1 f2 hout
      obtain ⟨g0, g1, g2⟩ := HE.out _ HB5.out
      have hn1 : decide (xb < (q : Int)) = false := decide_eq_false (by omega)
      have hqc' : (q : Int) ≤ c5 := by omega
      have hend : Hid ((q : Int) < xb ∧ decide (at_ + (q : Int) < c) = false ∨ decide ((q : Int) < xb) = false) := Lib.hid (by
        by_cases h : (q : Int) < xb
        · exact .inl ⟨h, decide_eq_false (by have := hq3'.out h; omega)⟩
        · exact .inr (decide_eq_false h))
      have INNER : Hid True := Lib.hid trivial
      rcases hend.out with ⟨hx1, hx2⟩ | hx1
      · clear hend hq3'
        go_wp2_with fail
        go_loop [12] (fun vk => ∃ k : Nat, k ≤ q ∧ vk = .int .i64 (k : Int)) (fun vk => q + 1 - (intOf vk).toNat)
        case atStart => exact ⟨0, Nat.zero_le _, rfl⟩
        case round =>
          obtain ⟨k, hk, rfl⟩ := hrel
          by_cases hkq : k < q
          · have hkq' : (k : Int) < q := by omega
            obtain ⟨ob, rfl, hcell⟩ := HOUT.out.resolve_left (by omega)
            obtain ⟨rb, rc, p0, hrc, p1⟩ := hcell k hkq
            have hrc' : (1 : Int) ≤ rc := by omega
            have hak : at_ + (k : Int) ≤ 9223372036854775807 := by omega
            clear hcell
            go_wp2_with fail
            go_round
            case rel => exact ⟨k + 1, by omega, by go_num⟩
            case measure => simp [intOf]; omega
          · have hkq' : (q : Int) ≤ k := by omega
            go_wp2_with fail
            go_roundw
            case rel => exact ⟨i + 1, at_ + q, c, base, n, rfl, rfl, by go_num, by omega, by omega, by omega, hq4', hbs0, HCs2.out, by push_cast; omega, hns, HB5.out, HK5.out⟩
            case measure => simp [intOf]; omega
      · clear hend hq3'
        go_wp2_with fail
        go_loop [12] (fun vk => ∃ k : Nat, k ≤ q ∧ vk = .int .i64 (k : Int)) (fun vk => q + 1 - (intOf vk).toNat)
        case atStart => exact ⟨0, Nat.zero_le _, rfl⟩
        case round =>
          obtain ⟨k, hk, rfl⟩ := hrel
          by_cases hkq : k < q
          · have hkq' : (k : Int) < q := by omega
            obtain ⟨ob, rfl, hcell⟩ := HOUT.out.resolve_left (by omega)
            obtain ⟨rb, rc, p0, hrc, p1⟩ := hcell k hkq
            have hrc' : (1 : Int) ≤ rc := by omega
            have hak : at_ + (k : Int) ≤ 9223372036854775807 := by omega
            clear hcell
            go_wp2_with fail
            go_round
            case rel => exact ⟨k + 1, by omega, by go_num⟩
            case measure => simp [intOf]; omega
          · have hkq' : (q : Int) ≤ k := by omega
            go_wp2_with fail
            go_roundw
            case rel => exact ⟨i + 1, at_ + q, c, base, n, rfl, rfl, by go_num, by omega, by omega, by omega, hq4', hbs0, HCs2.out, by push_cast; omega, hns, HB5.out, HK5.out⟩
            case measure => simp [intOf]; omega
    · have hstop : decide ((i : Int) < l.length) = false ∨ (decide ((i : Int) < l.length) = true ∧ decide ((i : Int) < 200) = false) := by
        by_cases hx : (i : Int) < l.length
        · exact .inr ⟨decide_eq_true hx, decide_eq_false (by omega)⟩
        · exact .inl (decide_eq_false hx)
      clear hgo
      have BC := Lib.hid (fun w' (m : Mod wr w' []) => base_calls (HK.out.mod m))
      have EC := Lib.hid (fun w' (m : Mod wr w' []) => end_calls (HK.out.mod m) (by omega) (by have := HC.out; omega) (by rw [sq_len]; omega))
      simp only [sq_len] at EC
      have hcc := HC.out
      have HCC := Lib.hid HC.out
      clear HC
      subst hcc
      have hn' : (n : Int) ≤ 64 := by omega
      rcases hstop with hx | ⟨hx, hy⟩
      · have hx' : (l.length : Int) ≤ i := by have := of_decide_eq_false hx; omega
        go_wp2_with fail
        (with_reducible refine (EC.out _ (Mod.refl _ _)).mono ?_)
        rintro e w4 ⟨rfl, hm4⟩
        have HM4 := Lib.hid hm4
        go_wp2_with fail
        (with_reducible refine (EC.out _ HM4.out).mono ?_)
        rintro e w5 ⟨rfl, hm5⟩
        have HM5 := Lib.hid (HM4.out.trans0 hm5)
        clear hm4 hm5
        go_wp2_with fail
        (with_reducible refine (BC.out _ HM5.out).mono ?_)
        rintro e w6 ⟨rfl, rfl⟩
        have hd : base + (n : Int) - base = n := by omega
        go_wp2_with fail
        go_ret
        refine ⟨ret_bool ?_, HB.out.trans (below_mod hsz HM5.out)⟩
        simp <;> omega
      · have hx' : (i : Int) < l.length := of_decide_eq_true hx
        have hy' : (200 : Int) ≤ i := by have := of_decide_eq_false hy; omega
        go_wp2_with fail
        (with_reducible refine (EC.out _ (Mod.refl _ _)).mono ?_)
        rintro e w4 ⟨rfl, hm4⟩
        have HM4 := Lib.hid hm4
        go_wp2_with fail
        (with_reducible refine (EC.out _ HM4.out).mono ?_)
        rintro e w5 ⟨rfl, hm5⟩
        have HM5 := Lib.hid (HM4.out.trans0 hm5)
        clear hm4 hm5
        go_wp2_with fail
        (with_reducible refine (BC.out _ HM5.out).mono ?_)
        rintro e w6 ⟨rfl, rfl⟩
        have hd : base + (n : Int) - base = n := by omega
        go_wp2_with fail
        go_ret
        refine ⟨ret_bool ?_, HB.out.trans (below_mod hsz HM5.out)⟩
        simp <;> omega
end Go.Proofs.Ytceocpohdckkoaa.Bx
