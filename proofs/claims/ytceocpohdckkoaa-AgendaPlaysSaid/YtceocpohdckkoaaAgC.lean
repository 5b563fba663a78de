/- What is added, item by item: plain; the law AgendaFull. -/
import Derived.Test.YtceocpohdckkoaaAgB
import Derived.Test.YtceocpohdckkoaaRd
namespace Go.Proofs.Ytceocpohdckkoaa.Ag
open Go.RowKit Mem
set_option linter.unusedSimpArgs false
set_option linter.unusedVariables false
set_option maxRecDepth 100000

def addK (f : Nat → Int × Int) : Nat → List It
  | 0 => []
  | k + 1 => insI (addK f k) ((f k).1, (k : Int) + 1, (f k).2)
theorem addK_len (f : Nat → Int × Int) : ∀ k, (addK f k).length = k
  | 0 => rfl
  | k + 1 => by show (insI (addK f k) _).length = k + 1; rw [ins_len, addK_len f k]
theorem addK_mem (f : Nat → Int × Int) {s : It} : ∀ {k : Nat}, s ∈ addK f k ↔ ∃ i, i < k ∧ s = ((f i).1, (i : Int) + 1, (f i).2)
  | 0 => by simp [addK]
  | k + 1 => by
    show s ∈ insI (addK f k) _ ↔ _
    rw [ins_mem, addK_mem f]
    constructor
    · rintro (⟨i, hi, rfl⟩ | rfl)
      · exact ⟨i, by omega, rfl⟩
      · exact ⟨k, by omega, rfl⟩
    · rintro ⟨i, hi, rfl⟩
      by_cases e : i = k
      · subst e; exact .inr rfl
      · exact .inl ⟨i, by omega, rfl⟩
theorem addK_has (f : Nat → Int × Int) (k : Nat) (id : Int) : hasI (addK f k) id = decide (1 ≤ id ∧ id ≤ k) := by
  rw [Bool.eq_iff_iff, hasI_iff, decide_eq_true_iff]
  constructor
  · rintro ⟨s, hs, rfl⟩
    obtain ⟨i, hi, rfl⟩ := (addK_mem f).1 hs
    show 1 ≤ (i : Int) + 1 ∧ (i : Int) + 1 ≤ k
    omega
  · intro h
    exact ⟨_, (addK_mem f).2 ⟨(id - 1).toNat, by omega, rfl⟩, by show (((id - 1).toNat : Nat) : Int) + 1 = id; omega⟩
theorem wo_len {S : List It} {last id : Int} (h : Ok S last) (hh : hasI S id = true) : (woI S id).length + 1 = S.length := by
  obtain ⟨x, hx, rfl⟩ := hasI_iff.1 hh
  have hp := List.perm_cons_erase hx
  have := (wo_perm h hp.symm).length_eq
  have := hp.length_eq
  simp at this
  omega
theorem wo_has (S : List It) (id : Int) : hasI (woI S id) id = false := by
  cases h : hasI (woI S id) id with
  | false => rfl
  | true =>
    obtain ⟨s, hs, e⟩ := hasI_iff.1 h
    have := (List.mem_filter.1 hs).2
    simp [e] at this
theorem ints_rd {w : World} {a : Value} (h : Open.Rd w (.sl (.int .i64) 8) [a]) : ∃ (l : List Int) (ad : Option Addr) (cap : Nat), a = .slice ad l.length cap ∧ l.length ≤ 140737488351232 ∧ (∀ x ∈ l, -9223372036854775808 ≤ x ∧ x ≤ 9223372036854775807) ∧
    (l = [] ∨ ∃ b off, ad = some ⟨b, off, none⟩ ∧ ∀ k (hk : k < l.length), w.cell? ⟨b, off + k, none⟩ = some (.int .i64 l[k])) := by
  obtain ⟨v, rows, hv, ⟨ad, cap, rfl, hc1, hc2, hn, hpos, hcell⟩, hlen, hl1, hrd⟩ := h
  obtain rfl : a = _ := by simpa using hv
  obtain ⟨l, rfl, hl⟩ := Open.rows_map (rows := rows) (fun n : Int => [Value.int .i64 n]) (fun x => -9223372036854775808 ≤ x ∧ x ≤ 9223372036854775807) (fun r hr => by
    obtain ⟨n, rfl, hwf⟩ := hrd r hr
    have h0 : -9223372036854775808 ≤ n ∧ n ≤ 9223372036854775807 := by simpa [Lit.wf, IntKind.min, IntKind.max, IntKind.signed, IntKind.bits] using hwf
    exact ⟨n, rfl, h0⟩)
  refine ⟨l, ad, cap, by simp, by simp at hlen; omega, hl, ?_⟩
  by_cases h0 : l = []
  · exact .inl h0
  · obtain ⟨b, off, rfl⟩ := hpos (by simpa using h0) (by decide)
    refine .inr ⟨b, off, rfl, fun k hk => ?_⟩
    have := (hcell b off rfl k (by simpa using hk) 0 (by decide)).1
    simpa [Open.Sh.cells] using this
/-- The items of a []int, and what they are. -/
def fFull (xs : List Int) (i : Nat) : Int × Int := (if i < xs.length then xs.getD i 0 else (i : Int), (i : Int))

set_option maxHeartbeats 4000000 in
theorem agendaFull_calls (w : World) (a : Value) (ha : Open.Rd w (.sl (.int .i64) 8) [a]) (drop : Int) (hd : (Lit.int .i64 drop).wf = true) :
    Calls Try.prog 6 #[a, .int .i64 drop] w fun e w' => e = .returned (.bool true) ∧ Below w.heap.size w w' := by
  obtain ⟨xs, ad, acap, rfl, hal, hax, hac⟩ := ints_rd ha
  have AW := Lib.hid awake_calls
  have NW := Lib.hid (new_calls w)
  have HAC := Lib.hid hac
  have hal' : (xs.length : Int) ≤ 140737488351232 := by omega
  obtain ⟨f, hf⟩ : ∃ f, f = fFull xs := ⟨_, rfl⟩
  have HF := Lib.hid hf
  have ADD := Lib.hid (fun (i : Nat) x (h : AgW w x w.heap.size (i : Int) (addK f i)) (hi : i < 4096) => add_ok w x w.heap.size (i : Int) (addK f i) (f i).1 (f i).2 h ⟨by omega, by omega⟩ (by rw [addK_len]; omega))
  clear ha hax hac hd hf
  go_enter Try.func6, Try.ntmps6
  go_wp2_with fail
  (with_reducible refine NW.out.mono ?_)
  rintro e w1 ⟨rfl, hag, hm⟩
  have H1 := Lib.hid hag
  clear hag hm NW
  go_wp2_with fail
  (with_reducible refine (AW.out _).mono ?_)
  rintro e w2 ⟨rfl, hm2⟩
  have H2 := Lib.hid (H1.out.mod hm2)
  clear hm2 H1
  go_wp2_with fail
  go_loopw [6] (fun vi wr => ∃ i : Nat, i ≤ 4096 ∧ vi = .int .i64 (i : Int) ∧ AgW w wr w.heap.size (i : Int) (addK f i)) (fun vi _ => 4097 - (intOf vi).toNat)
  case atStart => exact ⟨0, by omega, rfl, H2.out⟩
  case round =>
    obtain ⟨i, hi, rfl, hag⟩ := hrel
    have HA := Lib.hid hag
    clear hag H2
    by_cases hlt : i < 4096
    · have hlt' : (i : Int) < 4096 := by omega
      have ADD1 := Lib.hid (ADD.out i wr HA.out hlt)
      have h2 : (f i).2 = (i : Int) := by rw [HF.out]; rfl
      have hw1 := IntWalk.i64_in ((i : Int) + 1) (by omega)
      rw [h2] at ADD1
      have HN : Hid (insI (addK f i) ((f i).1, (i : Int) + 1, (i : Int)) = addK f (i + 1)) := Lib.hid (by show insI (addK f i) ((f i).1, (i : Int) + 1, (i : Int)) = insI (addK f i) ((f i).1, (i : Int) + 1, (f i).2); rw [h2])
      rw [HN.out] at ADD1
      by_cases hix : i < xs.length
      · have hix' : (i : Int) < xs.length := by omega
        obtain ⟨bb, off, rfl, hc⟩ := HAC.out.resolve_left (fun h => by rw [h] at hix; simp at hix)
        have c0 := keepC HA.out.md (hc i hix)
        have h1 : (f i).1 = xs[i] := by rw [HF.out]; show (if i < xs.length then xs.getD i 0 else (i : Int)) = _; rw [if_pos hix, List.getD_eq_getElem?_getD, List.getElem?_eq_getElem hix]; rfl
        rw [h1] at ADD1
        clear hc h1 h2 HN
        generalize xs[i] = t at *
        go_wp2_with fail
        (with_reducible refine ADD1.out.mono ?_)
        rintro e w3 ⟨rfl, hag, hk⟩
        have HA3 := Lib.hid hag
        clear hag hk ADD1
        go_wp2_with fail
        go_roundw
        case rel => exact ⟨i + 1, by omega, by go_num, by have h := HA3.out; exact_mod_cast h⟩
        case measure => simp [intOf]; omega
      · have hix' : (xs.length : Int) ≤ i := by omega
        have h1 : (f i).1 = (i : Int) := by rw [HF.out]; show (if i < xs.length then xs.getD i 0 else (i : Int)) = _; rw [if_neg hix]
        rw [h1] at ADD1
        clear h1 h2 HN
        go_wp2_with fail
        (with_reducible refine ADD1.out.mono ?_)
        rintro e w3 ⟨rfl, hag, hk⟩
        have HA3 := Lib.hid hag
        clear hag hk ADD1
        go_wp2_with fail
        go_roundw
        case rel => exact ⟨i + 1, by omega, by go_num, by have h := HA3.out; exact_mod_cast h⟩
        case measure => simp [intOf]; omega
    · have hge : (4096 : Int) ≤ i := by omega
      obtain rfl : i = 4096 := by omega
      have hlen := addK_len f 4096
      have HHAS := Lib.hid (addK_has f 4096 drop)
      have HA0 : Hid (AgW w wr w.heap.size 4096 (addK f 4096)) := Lib.hid HA.out
      obtain ⟨S, hS⟩ : ∃ S, S = addK f 4096 := ⟨_, rfl⟩
      rw [← hS] at hlen HHAS HA0
      have FU1 := Lib.hid (fun x h => add_full w x w.heap.size 4096 S 1 2 h (by omega) hlen)
      have LN := Lib.hid (fun x h => alen_calls w x w.heap.size 4096 S h)
      rw [hlen] at LN
      have DR := Lib.hid (fun x h => drop_calls w x w.heap.size 4096 S drop h (by omega))
      have DR2 := Lib.hid (fun x h => drop_calls w x w.heap.size 4096 (woI S drop) drop h (Nat.le_trans (List.length_filter_le _ _) (by omega)))
      unfold DropP at DR DR2
      rw [wo_has, wo_not (wo_has S drop)] at DR2
      have WL := Lib.hid (wo_len (S := S) (id := drop) HA0.out.ok)
      have WN := Lib.hid (wo_not (S := S) (id := drop))
      have HLEN := Lib.hid hlen
      clear hS HA ADD AW hlen
      by_cases hin : 1 ≤ drop ∧ drop ≤ 4096
      · obtain ⟨d1, d2⟩ := hin
        have hh : hasI S drop = true := by rw [HHAS.out]; exact decide_eq_true ⟨d1, d2⟩
        rw [hh] at DR
        have hwl := WL.out hh
        have AD2 := Lib.hid (fun x h => add_ok w x w.heap.size 4096 (woI S drop) 1 2 h (by omega) (by have := HLEN.out; omega))
        clear hh HHAS WL WN
        go_wp2_with fail
        (with_reducible refine (FU1.out _ HA0.out).mono ?_)
        rintro e w3 ⟨rfl, hag, hk⟩
        have H3 := Lib.hid hag
        clear hag hk HA0
        go_wp2_with fail
        (with_reducible refine (LN.out _ H3.out).mono ?_)
        rintro e w4 ⟨rfl, rfl⟩
        go_wp2_with fail
        (with_reducible refine (DR.out _ H3.out).mono ?_)
        rintro e w4 ⟨rfl, hag, hk⟩
        have H4 := Lib.hid hag
        clear hag hk H3
        go_wp2_with fail
        (with_reducible refine (DR2.out _ H4.out).mono ?_)
        rintro e w5 ⟨rfl, hag, hk⟩
        have H5 := Lib.hid hag
        clear hag hk H4
        go_wp2_with fail
        (with_reducible refine (AD2.out _ H5.out).mono ?_)
        rintro e w6 ⟨rfl, hag, hk⟩
        have H6 := Lib.hid hag.md.below0
        clear hag hk H5
        go_wp2_with fail
        go_ret
        exact ⟨rfl, H6.out⟩
      · have hh : hasI S drop = false := by rw [HHAS.out]; exact decide_eq_false (by omega)
        rw [hh] at DR
        have hwn := WN.out hh
        rw [hwn] at DR DR2
        rcases (by omega : drop < 1 ∨ (1 ≤ drop ∧ 4096 < drop)) with k1 | ⟨k1, k2⟩
        all_goals
          clear hh HHAS WL WN hin hwn
          go_wp2_with fail
          (with_reducible refine (FU1.out _ HA0.out).mono ?_)
          rintro e w3 ⟨rfl, hag, hk⟩
          have H3 := Lib.hid hag
          clear hag hk HA0
          go_wp2_with fail
          (with_reducible refine (LN.out _ H3.out).mono ?_)
          rintro e w4 ⟨rfl, rfl⟩
          go_wp2_with fail
          (with_reducible refine (DR.out _ H3.out).mono ?_)
          rintro e w4 ⟨rfl, hag, hk⟩
          have H4 := Lib.hid hag
          clear hag hk H3
          go_wp2_with fail
          (with_reducible refine (DR2.out _ H4.out).mono ?_)
          rintro e w5 ⟨rfl, hag, hk⟩
          have H5 := Lib.hid hag
          clear hag hk H4
          go_wp2_with fail
          (with_reducible refine (FU1.out _ H5.out).mono ?_)
          rintro e w6 ⟨rfl, hag, hk⟩
          have H6 := Lib.hid hag.md.below0
          clear hag hk H5
          go_wp2_with fail
          go_ret
          exact ⟨rfl, H6.out⟩
end Go.Proofs.Ytceocpohdckkoaa.Ag
