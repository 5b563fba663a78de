/- The law BitsBack. -/
import Derived.Test.YtfabmgdfapioiaaBitsG
import Derived.Test.YtfabmgdfapioiaaRd
namespace Go.Proofs.Ytfabmgdfapioiaa.Bits
open Go.RowKit Mem
set_option linter.unusedSimpArgs false
set_option linter.unusedVariables false
set_option maxRecDepth 100000

structure Th where
  k : Nat
  n : Nat
  m : Int
  f : Nat
  s : ByteArray
  b : Bool
structure ThOK (x : Th) : Prop where
  k : x.k < 256
  n : x.n < 18446744073709551616
  m1 : -9223372036854775808 ≤ x.m
  m2 : x.m ≤ 9223372036854775807
  f : x.f < 18446744073709551616
  s : x.s.size ≤ 140737488351232
abbrev thC (x : Th) : List Value := [.int .u8 x.k, .int .u64 x.n, .int .i64 x.m, .float .f64 x.f, .string x.s, .bool x.b]
abbrev thSh : Open.Sh := .st (.cat (.int .u8) (.cat (.int .u64) (.cat (.int .i64) (.cat .flt (.cat .str (.cat .bool .nil))))))
structure Cells6 (w : World) (b o : Nat) (x : Th) : Prop where
  c0 : w.cell? ⟨b, o, none⟩ = some (.int .u8 x.k)
  c1 : w.cell? ⟨b, o + 1, none⟩ = some (.int .u64 x.n)
  c2 : w.cell? ⟨b, o + 2, none⟩ = some (.int .i64 x.m)
  c3 : w.cell? ⟨b, o + 3, none⟩ = some (.float .f64 x.f)
  c4 : w.cell? ⟨b, o + 4, none⟩ = some (.string x.s)
  c5 : w.cell? ⟨b, o + 5, none⟩ = some (.bool x.b)
theorem cell_lt {w : World} {p : Addr} {v : Value} (h : w.cell? p = some v) : p.block < w.heap.size := by
  by_cases hg : p.block < w.heap.size
  · exact hg
  · exfalso
    simp [World.cell?, Array.getElem?_eq_none (by omega : w.heap.size ≤ p.block)] at h
theorem Cells6.mod {w w' : World} {b o : Nat} {x : Th} (h : Cells6 w b o x) (m : Mod w w' []) : Cells6 w' b o x := by
  have hl := cell_lt h.c0
  exact ⟨(m.cell (p := ⟨b, o, none⟩) hl (by simp)).trans h.c0, (m.cell (p := ⟨b, o + 1, none⟩) hl (by simp)).trans h.c1, (m.cell (p := ⟨b, o + 2, none⟩) hl (by simp)).trans h.c2, (m.cell (p := ⟨b, o + 3, none⟩) hl (by simp)).trans h.c3, (m.cell (p := ⟨b, o + 4, none⟩) hl (by simp)).trans h.c4, (m.cell (p := ⟨b, o + 5, none⟩) hl (by simp)).trans h.c5⟩

theorem th_rd {w : World} {a : Value} (h : Open.Rd w (.sl thSh 56) [a]) : ∃ (l : List Th) (ad : Option Addr) (cap : Nat), a = .slice ad l.length cap ∧ l.length ≤ 140737488351232 ∧ (∀ x ∈ l, ThOK x) ∧
    (l = [] ∨ ∃ b off, ad = some ⟨b, off, none⟩ ∧ ∀ i (hi : i < l.length), Cells6 w b (off + i * 6) l[i]) := by
  obtain ⟨v, rows, hv, ⟨ad, cap, rfl, hc1, hc2, hn, hpos, hcell⟩, hlen, hl1, hrd⟩ := h
  obtain rfl : a = _ := by simpa using hv
  obtain ⟨l, rfl, hl⟩ := Open.rows_map (rows := rows) thC ThOK (fun r hr => by
    obtain ⟨x0, y0, rfl, ⟨n0, rfl, w0⟩, x1, y1, rfl, ⟨n1, rfl, w1⟩, x2, y2, rfl, ⟨n2, rfl, w2⟩, x3, y3, rfl, ⟨n3, rfl, w3⟩, x4, y4, rfl, ⟨n4, rfl, w4⟩, x5, y5, rfl, ⟨n5, rfl⟩, rfl⟩ := hrd r hr
    obtain ⟨p0, q0⟩ : 0 ≤ n0 ∧ n0 ≤ 255 := by simpa [Lit.wf, IntKind.min, IntKind.max, IntKind.signed, IntKind.bits] using w0
    obtain ⟨p1, q1⟩ : 0 ≤ n1 ∧ n1 ≤ 18446744073709551615 := by simpa [Lit.wf, IntKind.min, IntKind.max, IntKind.signed, IntKind.bits] using w1
    obtain ⟨p2, q2⟩ : -9223372036854775808 ≤ n2 ∧ n2 ≤ 9223372036854775807 := by simpa [Lit.wf, IntKind.min, IntKind.max, IntKind.signed, IntKind.bits] using w2
    have p3 : n3 < 18446744073709551616 := by simpa [Lit.wf] using w3
    refine ⟨⟨n0.toNat, n1.toNat, n2, n3, n4, n5⟩, ?_, ⟨by show n0.toNat < 256; omega, by show n1.toNat < _; omega, p2, q2, p3, w4⟩⟩
    show _ = [Value.int .u8 ((n0.toNat : Nat) : Int), .int .u64 ((n1.toNat : Nat) : Int), .int .i64 n2, .float .f64 n3, .string n4, .bool n5]
    rw [Int.toNat_of_nonneg p0, Int.toNat_of_nonneg p1]; rfl)
  refine ⟨l, ad, cap, by simp, by have : l.length * 56 ≤ 140737488351232 := by simpa using hlen
                                  omega, hl, ?_⟩
  by_cases h0 : l = []
  · exact .inl h0
  · obtain ⟨b, off, rfl⟩ := hpos (by simpa using h0) (by decide)
    refine .inr ⟨b, off, rfl, fun i hi => ?_⟩
    have h := fun c hc => (hcell b off rfl i (by simpa using hi) c hc).1
    simp only [List.getElem_map] at h
    exact ⟨h 0 (by decide), h 1 (by decide), h 2 (by decide), h 3 (by decide), h 4 (by decide), h 5 (by decide)⟩

/-- What is written of a list, one behind the other. -/
def wrT (x : Th) : ByteArray := wrS x.k x.n x.m x.f x.s x.b
def wrL : List Th → ByteArray
  | [] => ⟨#[]⟩
  | x :: l => wrT x ++ wrL l
theorem app_nil (s : ByteArray) : s ++ ⟨#[]⟩ = s := by apply Bt.ext_list; rw [Bt.app_data]; simp
theorem nil_app (s : ByteArray) : (⟨#[]⟩ : ByteArray) ++ s = s := by apply Bt.ext_list; rw [Bt.app_data]; simp
theorem wrL_snoc (l : List Th) (x : Th) : wrL (l ++ [x]) = wrL l ++ wrT x := by
  induction l with
  | nil => show wrT x ++ ⟨#[]⟩ = ⟨#[]⟩ ++ wrT x; rw [app_nil, nil_app]
  | cons y l ih => show wrT y ++ wrL (l ++ [x]) = wrT y ++ wrL l ++ wrT x; rw [ih, ByteArray.append_assoc]
theorem wrT_size (x : Th) (h : ThOK x) : (wrT x).size ≤ 140737488351300 := by
  have h1 := Bt.numS_size_le x.n
  have h2 := Bt.numS_size_le (fold x.m)
  have h3 := Bt.numS_size_le x.s.size
  have h4 := h.s
  have h5 : (realS x.f).size = 8 := by unfold realS; rw [strOfNums_size, Bt.be_length]
  have h6 : (flagS x.b).size = 1 := by cases x.b <;> rfl
  unfold wrT wrS
  repeat' split
  all_goals (try rw [ByteArray.size_append])
  all_goals omega
theorem wrL_size (l : List Th) (h : ∀ x ∈ l, ThOK x) : (wrL l).size ≤ l.length * 140737488351300 := by
  induction l with
  | nil => exact Nat.le_refl _
  | cons x l ih =>
    have h1 := wrT_size x (h x (by simp))
    have h2 := ih (fun y hy => h y (by simp [hy]))
    show (wrT x ++ wrL l).size ≤ (l.length + 1) * _
    rw [ByteArray.size_append]; omega
theorem wrL_cut (l : List Th) (i n : Nat) (hi : i < l.length) (hn : i < n) : wrL ((l.take n).drop i) = wrT l[i] ++ wrL ((l.take n).drop (i + 1)) := by
  have h : i < (l.take n).length := by rw [List.length_take]; omega
  rw [List.drop_eq_getElem_cons h, List.getElem_take]
  rfl

set_option maxHeartbeats 4000000 in
theorem bitsBack_calls (w : World) (a : Value) (ha : Open.Rd w (.sl thSh 56) [a]) (more : ByteArray) (hs : more.size ≤ 140737488351232) :
    Calls Try.prog 4 #[a, .string more] w fun e w' => e = .returned (.bool true) ∧ Below w.heap.size w w' := by
  obtain ⟨l, ad, cap, rfl, hl, hx, hcase⟩ := th_rd ha
  have hl' : (l.length : Int) ≤ 140737488351232 := by omega
  have AC := Lib.hid at_calls
  have AW := Lib.hid awake_calls
  have hss : (more.toList == more.toList) = true := by simp
  clear ha
  have HX := Lib.hid hx
  clear hx
  go_enter Try.func4, Try.ntmps4
  go_wp2_with fail
  go_loopw [5, 6] (fun vs vi wr => ∃ (j : Nat) (S : ByteArray), j ≤ l.length ∧ j ≤ 50 ∧ vi = .int .i64 (j : Int) ∧ vs = .string S ∧ Hid (S = wrL (l.take j)) ∧ S.size ≤ j * 140737488351300 ∧ Mod w wr []) (fun _ vi _ => 51 - (intOf vi).toNat)
  case atStart => exact ⟨0, ⟨#[]⟩, by omega, by omega, rfl, rfl, Lib.hid rfl, by decide, Mod.refl _ _⟩
  case round =>
    obtain ⟨j, S, hj, hj2, rfl, rfl, HS, hz, hm⟩ := hrel
    have HM := Lib.hid hm
    clear hm
    by_cases hlt : j < l.length ∧ j < 50
    · obtain ⟨hlt, hlt2⟩ := hlt
      have hlt' : (j : Int) < l.length := by omega
      have hlt2' : (j : Int) < 50 := by omega
      rcases hcase with hnil | ⟨b, off, had, hcell⟩
      · rw [hnil] at hlt; exact absurd hlt (by simp)
      have hc := (hcell j hlt).mod HM.out
      have hk := HX.out _ (List.getElem_mem hlt)
      subst had
      have HT := Lib.hid (show l.take (j + 1) = l.take j ++ [l[j]] by rw [List.take_succ_eq_append_getElem hlt])
      have hwz := wrT_size _ hk
      generalize l[j]'hlt = x at *
      obtain ⟨xk, xn, xm, xf, xs, xb⟩ := x
      obtain ⟨c0, c1, c2, c3, c4, c5⟩ := hc
      obtain ⟨k0, k1, k2, k3, k4, k5⟩ := hk
      dsimp only at c0 c1 c2 c3 c4 c5 k0 k1 k2 k3 k4 k5
      have WC := Lib.hid (fun w => written_calls xk xn xm xf xs xb k0 k1 k2 k3 k4 (by omega) w)
      have HW : Hid (wrT ⟨xk, xn, xm, xf, xs, xb⟩ = wrS xk xn xm xf xs xb) := Lib.hid rfl
      have HW' := Lib.hid hwz
      unfold wrT at hwz
      dsimp only at hwz
      generalize wrS xk xn xm xf xs xb = W at *
      have hz1 : (S.size : Int) + (W.size : Int) ≤ 9007199254740992 := by omega
      clear hcell k0 k1 k2 k3 k4 k5 HW'
      go_wp2_with fail
      refine (WC.out _).mono ?_
      rintro e w2 ⟨rfl, hm2⟩
      have HM2 := Lib.hid (HM.out.trans0 hm2)
      clear hm2
      go_wp2_with fail
      go_roundw
      case rel => exact ⟨j + 1, S ++ W, by omega, by omega, by go_num, rfl, Lib.hid (by rw [HT.out, wrL_snoc, HS.out, HW.out]), by rw [ByteArray.size_append]; omega, HM2.out⟩
      case measure => simp [intOf]; omega
    · have hq2 : 50 ≤ (j : Int) ∨ (l.length : Int) ≤ j := by omega
      obtain ⟨n, hn⟩ : ∃ n, n = j := ⟨_, rfl⟩
      have HS' : Hid (S = wrL ((l.take j).drop 0)) := Lib.hid (by rw [List.drop_zero]; exact HS.out)
      have hz2 : (S.size : Int) + (more.size : Int) ≤ 9007199254740992 := by omega
      have hall : Hid (n = j ∧ (50 ≤ j ∨ l.length ≤ j)) := Lib.hid ⟨hn, by omega⟩
      clear hlt hn HS hz
      by_cases hq : (j : Int) < l.length
      all_goals
        first | (have hq3 : 50 ≤ (j : Int) := by omega) | (have hq3 : (l.length : Int) ≤ j := by omega)
        clear hq2
        go_wp2_with fail
        refine (AC.out _ _).mono ?_
        rintro e w1 ⟨rfl, hm1, hb1⟩
        have HM1 := Lib.hid (HM.out.trans0 hm1)
        have HT1 := Lib.hid hb1
        have hg1 := hb1.lt
        have hge := HM.out.size
        clear hm1 hb1
        go_wp2_with fail
        refine (AW.out _).mono ?_
        rintro e w2 ⟨rfl, hm2⟩
        have HM2 := Lib.hid (HM1.out.trans0 hm2)
        have HT2 := Lib.hid (Blk.mod HT1.out hm2 (by simp))
        clear hm2 HT1 HM1 HM
        go_wp2_with fail
        obtain ⟨wo, rfl⟩ : ∃ wo : World, wo = wr := ⟨_, rfl⟩
        go_loopw [8] (fun vi wr => ∃ (i : Nat) (R : ByteArray), i ≤ j ∧ vi = .int .i64 (i : Int) ∧ Hid (R = wrL ((l.take j).drop i) ++ more) ∧ Mod w wr [] ∧ TapeAt wr wo.heap.size R 0) (fun vi _ => 51 - (intOf vi).toNat)
        case atStart => exact ⟨0, _, Nat.zero_le _, rfl, Lib.hid (by rw [HS'.out]), HM2.out, HT2.out⟩
        case round =>
          obtain ⟨i, R, hi, rfl, HR, hm, ht⟩ := hrel
          have HM := Lib.hid hm
          have HT := Lib.hid ht
          clear hm ht HM2 HT2
          by_cases hlt : i < l.length ∧ i < 50
          · obtain ⟨hlt, hlt2⟩ := hlt
            have hlt' : (i : Int) < l.length := by omega
            have hlt2' : (i : Int) < 50 := by omega
            have hij : i < j := by have := hall.out; omega
            rcases hcase with hnil | ⟨b, off, had, hcell⟩
            · rw [hnil] at hlt; exact absurd hlt (by simp)
            have hc := (hcell i hlt).mod HM.out
            have hk := HX.out _ (List.getElem_mem hlt)
            subst had
            have HC := Lib.hid (wrL_cut l i j hlt hij)
            have hlz : (wrL ((l.take j).drop (i + 1)) ++ more).size ≤ 50 * 140737488351300 + 140737488351232 := by
              have h1 := wrL_size ((l.take j).drop (i + 1)) (fun x hx => HX.out x (List.mem_of_mem_take (List.mem_of_mem_drop hx)))
              have h2 : ((l.take j).drop (i + 1)).length ≤ 49 := by rw [List.length_drop, List.length_take]; omega
              have h3 : ((l.take j).drop (i + 1)).length * 140737488351300 ≤ 49 * 140737488351300 := Nat.mul_le_mul_right _ h2
              rw [ByteArray.size_append]; omega
            have hwz := wrT_size _ hk
            have HRC := Lib.hid (show R = wrT l[i] ++ (wrL ((l.take j).drop (i + 1)) ++ more) by rw [HR.out, HC.out, ByteArray.append_assoc])
            obtain ⟨R', hR'⟩ : ∃ R', R' = wrL ((l.take j).drop (i + 1)) ++ more := ⟨_, rfl⟩
            rw [← hR'] at hlz HRC
            have HR' := Lib.hid hR'
            clear hR' HC HR hcell
            generalize l[i]'hlt = x at *
            obtain ⟨xk, xn, xm, xf, xs, xb⟩ := x
            obtain ⟨c0, c1, c2, c3, c4, c5⟩ := hc
            obtain ⟨k0, k1, k2, k3, k4, k5⟩ := hk
            dsimp only at c0 c1 c2 c3 c4 c5 k0 k1 k2 k3 k4 k5
            have HRR := Lib.hid (show R = wrS xk xn xm xf xs xb ++ R' from HRC.out)
            have hwz' : (wrS xk xn xm xf xs xb).size ≤ 140737488351300 := hwz
            have GC := Lib.hid (fun w hb => again_calls wo.heap.size xk xn xm xf xs xb R' k0 k1 k2 k3 k4 (by omega) w (by simp only [ByteArray.size_append]; omega) hb)
            have HTT : Hid (TapeAt wr wo.heap.size (wrS xk xn xm xf xs xb ++ R') 0) := Lib.hid (by rw [← HRR.out]; exact HT.out)
            clear HRC HRR HT hwz hwz' k0 k1 k2 k3 k4 k5 hlz
            generalize wrS xk xn xm xf xs xb ++ R' = R2 at *
            go_wp2_with fail
            (with_reducible refine (GC.out _ ?_).mono ?_)
            · exact HTT.out
            rintro e w3 ⟨rfl, hm3, ht3⟩
            have HM3 := Lib.hid (HM.out.trans hm3 (by simp; omega))
            have HT3 := Lib.hid ht3
            clear hm3 ht3
            go_wp2_with fail
            (with_reducible refine (Err_calls _ _ _ _ HT3.out).mono ?_)
            rintro e w4 ⟨rfl, rfl⟩
            go_wp2_with fail
            go_roundw
            case rel => exact ⟨i + 1, R', by omega, by go_num, HR', HM3.out, HT3.out⟩
            case measure => simp [intOf]; omega
          · have hij : i = j := by have := hall.out; omega
            have hz0 : (l.take j).drop i = [] := List.drop_eq_nil_of_le (by rw [List.length_take]; omega)
            have HRm := Lib.hid (show R = more by rw [HR.out, hz0]; exact nil_app more)
            have HTT : Hid (TapeAt wr wo.heap.size more 0) := Lib.hid (by rw [← HRm.out]; exact HT.out)
            have hq5 : 50 ≤ (i : Int) ∨ (l.length : Int) ≤ i := by omega
            clear hz0 hij hlt HRm HR HT
            by_cases hq : (i : Int) < l.length
            all_goals
              first | (have hq6 : 50 ≤ (i : Int) := by omega) | (have hq6 : (l.length : Int) ≤ i := by omega)
              clear hq5
              go_wp2_with fail
              all_goals
                (with_reducible refine (Rest_calls _ _ _ _ HTT.out).mono ?_)
                rintro e w4 ⟨rfl, rfl⟩
                go_wp2_with fail
                go_ret
                exact ⟨rfl, HM.out.below0⟩
end Go.Proofs.Ytfabmgdfapioiaa.Bits
