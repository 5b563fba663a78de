/- The law BookEnds. -/
import Derived.Test.YtceocpohdckkoaaBxH
import Derived.Test.YtceocpohdckkoaaBxI
namespace Go.Proofs.Ytceocpohdckkoaa.Bx
open Go.RowKit Mem Bits
set_option linter.unusedSimpArgs false
set_option linter.unusedVariables false
set_option maxRecDepth 100000

theorem info_rr : (Try.prog.info? 26).map (fun i => (i.zero, i.size, i.bytes)) = some (some (.slice none 0 0), 1, 24) := by kernel_rfl
theorem sq_may (n : Nat) (h : n ≤ 64) : ∀ r ∈ sq 0 n, mayB r = true := by
  intro r hr
  obtain ⟨i, hi, rfl⟩ := List.mem_map.1 hr
  have := List.mem_range.1 hi
  exact may_one (by omega) (by omega)

/-- A match that may be, put where numbers do not end. -/
theorem put_ok {b : Int} {rows : List (List Int)} {xs : List Int} (h : Okb b rows) (hx : mayB xs = true) (hlt : b + rows.length < 549755813888) :
    ∃ (b' : Int) (rows' : List (List Int)), putS b rows xs = (0, b', rows') ∧ Okb b' rows' ∧ b' + rows'.length = b + rows.length + 1 := by
  have h0 := h.lo
  have h1 := h.len
  unfold putS
  rw [if_pos hx, if_neg (by omega)]
  have hm : ∀ r ∈ rows ++ [xs], mayB r = true := by
    intro r hr
    rcases List.mem_append.1 hr with h' | h'
    · exact h.may r h'
    · obtain rfl : r = xs := by simpa using h'
      exact hx
  by_cases hb : 64 < rows.length + 1
  · rw [if_pos hb]
    have hl : ((rows ++ [xs]).drop 1).length = rows.length := by rw [List.length_drop, List.length_append]; simp
    exact ⟨_, _, rfl, ⟨by omega, by rw [hl]; omega, by rw [hl]; omega, fun r hr => hm r (List.mem_of_mem_drop hr)⟩, by rw [hl]; omega⟩
  · rw [if_neg hb]
    have hl : (rows ++ [xs]).length = rows.length + 1 := by simp
    exact ⟨_, _, rfl, ⟨h0, by rw [hl]; push_cast; omega, by rw [hl]; omega, hm⟩, by rw [hl]; push_cast; omega⟩
theorem put_end {b : Int} {rows : List (List Int)} {xs : List Int} (hx : mayB xs = true) (hlt : b + rows.length = 549755813888) : putS b rows xs = (2, b, rows) := by
  unfold putS
  rw [if_pos hx, if_pos (by omega)]
theorem ints_two (w : World) (x y : Int) : IntsC (w.alloc (.cells #[.int .i64 x, .int .i64 y] 3)) (.slice (some ⟨w.heap.size, 0, none⟩) 2 2) [x, y] :=
  ⟨w.heap.size, 0, 2, rfl, Nat.le_refl _, fun i hi => by
    have hi2 : i < 2 := by simpa using hi
    rcases (by omega : i = 0 ∨ i = 1) with rfl | rfl
    · exact (Blk.new w #[.int .i64 x, .int .i64 y] 3).cell 0
    · exact (Blk.new w #[.int .i64 x, .int .i64 y] 3).cell 1⟩
theorem new_one {W : World} {b : Nat} {x : Value} {t : TypeId} (h : Blk W b #[x] t) : ∀ j u, [x][j]? = some u → W.cell? ((⟨b, 0, none⟩ : Addr).add j) = some u := by
  intro j u hj
  obtain ⟨hj0, he⟩ := List.getElem?_eq_some_iff.1 hj
  obtain rfl : j = 0 := by simpa using hj0
  simp only [List.getElem_cons_zero] at he
  subst he
  rw [Addr.add_lit]
  exact h.cell 0
theorem IntsQ.keptI {A B : World} {u : Value} {xs : List Int} (h : IntsQ 0 A u xs) (k : KeptT (fun t => t = tI) A B) : IntsQ 0 B u xs := by
  rcases h with h | ⟨b, off, cap, h1, h2, h3, h4⟩
  · exact .inl h
  · obtain ⟨cs, hb⟩ := h3.resolve_left (by omega)
    have hb' := k _ _ _ hb rfl
    exact .inr ⟨b, off, cap, h1, h2, .inr ⟨cs, hb'⟩, fun i hi => by rw [hb'.cell, ← hb.cell]; exact h4 i hi⟩
set_option maxHeartbeats 8000000 in
theorem bookEnds_calls (w : World) (n : Int) (hn : (Lit.int .i64 n).wf = true) (far : Int) (hf : (Lit.int .i64 far).wf = true) :
    Calls Try.prog 9 #[.int .i64 n, .int .i64 far] w fun e w' => e = .returned (.bool true) ∧ Below w.heap.size w w' := by
  obtain ⟨hn0, hn1⟩ := i64_of hn
  obtain ⟨hf0, hf1⟩ := i64_of hf
  obtain ⟨r, hr⟩ : ∃ r, n.tmod 65 = r := ⟨_, rfl⟩
  have hr1 : -65 < r := by rw [← hr]; exact Int.lt_tmod_of_pos n (by decide)
  have hr2 : r < 65 := by rw [← hr]; exact Int.tmod_lt_of_pos n (by decide)
  obtain ⟨p, hp⟩ : ∃ p : Nat, (r + 65).tmod 65 = (p : Int) := ⟨((r + 65).tmod 65).toNat, by have := Int.tmod_nonneg 65 (show 0 ≤ r + 65 by omega); omega⟩
  have hp64 : (p : Int) ≤ 64 := by have := Int.tmod_lt_of_pos (r + 65) (by decide : (0 : Int) < 65); omega
  obtain ⟨r', hr'⟩ : ∃ r, far.tmod 4 = r := ⟨_, rfl⟩
  have hr1' : -4 < r' := by rw [← hr']; exact Int.lt_tmod_of_pos far (by decide)
  have hr2' : r' < 4 := by rw [← hr']; exact Int.tmod_lt_of_pos far (by decide)
  obtain ⟨q, hq⟩ : ∃ q : Nat, (r' + 4).tmod 4 = (q : Int) := ⟨((r' + 4).tmod 4).toNat, by have := Int.tmod_nonneg 4 (show 0 ≤ r' + 4 by omega); omega⟩
  have hq3 : (q : Int) ≤ 3 := by have := Int.tmod_lt_of_pos (r' + 4) (by decide : (0 : Int) < 4); omega
  obtain ⟨base, hbase⟩ : ∃ base : Int, 549755813888 - (p : Int) - (q : Int) = base := ⟨_, rfl⟩
  have hb0 : 0 ≤ base := by omega
  have hb1 : base ≤ 549755813888 := by omega
  have HBASE := Lib.hid hbase
  clear hn hf
  obtain ⟨i0, hi0, hz0, hz1, hz2⟩ := info_parts info_rr
  have HB0 := Lib.hid (Blk.new w #[.int .i64 base, .slice none 0 0] 57)
  have HM0 := Lib.hid ((Mod.refl w []).alloc (.cells #[.int .i64 base, .slice none 0 0] 57))
  go_enter Try.func9, Try.ntmps9
  go_wp2_with fail
  generalize w.alloc _ = W at *
  clear hr hr1 hr2 hr' hr1' hr2' hp hq hbase
  go_loopw [6] (fun vi wr => ∃ (i : Nat) (v : Value) (us : List Value), i ≤ p ∧ vi = .int .i64 (i : Int) ∧ Mod w wr [] ∧ Blk wr w.heap.size #[.int .i64 base, v] 57 ∧ wr.ownsRow (w.heap.size + 1) tR 1 v us.length us ∧ All2 (IntsQ 0 wr) us (sq 0 i)) (fun vi _ => p + 1 - (intOf vi).toNat)
  case atStart => exact ⟨0, .slice none 0 0, [], Nat.zero_le _, rfl, HM0.out, HB0.out, World.ownsRow_nil _ _ _ _, .nil⟩
  case round =>
    obtain ⟨i, v, us, hi, rfl, hm, hb, hown, hrows⟩ := hrel
    have hul := all2_len hrows
    rw [sq_len] at hul
    have HUL := Lib.hid hul
    rw [hul] at hown
    clear hul
    have HM := Lib.hid hm
    have HB := Lib.hid hb
    have HO := Lib.hid hown
    have HR := Lib.hid hrows
    obtain ⟨va, vc, hva⟩ := Rw.own_slice hown
    subst hva
    have b0 := hb.cell 0
    have b1 := hb.cell 1
    have f1 := hb.free 1
    have hbl := hb.lt
    clear hm hb hown hrows HB0 HM0
    by_cases hlt : i < p
    · have hlt' : (i : Int) < p := by omega
      have HN1 := Lib.hid (Blk.new wr #[.int .i64 (i : Int)] 3)
      have HN2 := Lib.hid (Blk.new (wr.alloc (.cells #[.int .i64 (i : Int)] 3)) #[slV wr.heap.size 1 1] 26)
      have HM2 := Lib.hid ((HM.out.alloc (.cells #[.int .i64 (i : Int)] 3)).alloc (.cells #[slV wr.heap.size 1 1] 26))
      have HB2 := Lib.hid ((HB.out.alloc (.cells #[.int .i64 (i : Int)] 3)).alloc (.cells #[slV wr.heap.size 1 1] 26))
      have HK2 := Lib.hid (Kept.mod (((Mod.refl wr []).alloc (.cells #[.int .i64 (i : Int)] 3)).alloc (.cells #[slV wr.heap.size 1 1] 26)))
      have HO2 := Lib.hid ((HO.out.alloc (.cells #[.int .i64 (i : Int)] 3)).alloc (.cells #[slV wr.heap.size 1 1] 26))
      have c1 : (((wr.alloc (.cells #[.int .i64 (i : Int)] 3)).alloc (.cells #[slV wr.heap.size 1 1] 26))).cell? ⟨w.heap.size, 1, none⟩ = some (.slice va i vc) := HB2.out.cell 1
      rw [World.size_alloc] at HN2
      go_wp2_with (at_builtin; refine wpList_append_own _ rfl _ _ 55 rfl (w.heap.size + 1) 26 i0 _ 1 24 Try.underlying55 hi0 hz0 hz1 hz2 rfl (by decide) _ _ _ rfl HO2.out ⟨wr.heap.size + 1, 0, none⟩ 1 1 [slV wr.heap.size 1 1] rfl rfl (new_one HN2.out) (by simp [Value.oneCell']) (by unfold maxLen; omega) (by omega) (by simp; omega) ?_; intro v' w3 hown' hgrow hnil; clear hnil; have HO3 := Lib.hid hown'; have HG3 := Lib.hid hgrow; clear hown' hgrow; obtain ⟨a3, c3, hv3⟩ := Rw.own_slice HO3.out; subst hv3; have HB3 := Lib.hid (Rw.blk_grown HB2.out HG3.out (fun e => by obtain ⟨cur, hb⟩ := own_blk HO2.out _ e.symm; exact blk_ne hb HB2.out (by decide) rfl)); have g1 := HB3.out.cell 1; have k1 := HB3.out.free 1)
      have HKI : Hid (KeptT (fun t => t = tI) wr (w3.setCell ⟨w.heap.size, 1, none⟩ (.slice a3 (i + 1) c3))) := Lib.hid (by
        rintro k cs t hk rfl
        have h2 := (hk.alloc (.cells #[.int .i64 (i : Int)] 3)).alloc (.cells #[slV wr.heap.size 1 1] 26)
        refine (Rw.blk_grown h2 HG3.out (fun e => ?_)).far (p := ⟨w.heap.size, 1, none⟩) ?_ _
        · obtain ⟨cur, hb⟩ := own_blk HO2.out _ e.symm
          exact blk_ne hb h2 (by decide) rfl
        · exact blk_ne hk HB.out (by decide))
      have HQ : Hid (IntsQ 0 (w3.setCell ⟨w.heap.size, 1, none⟩ (.slice a3 (i + 1) c3)) (slV wr.heap.size 1 1) [(i : Int)]) := Lib.hid (by
        have h2 := HN1.out.alloc (.cells #[slV wr.heap.size 1 1] 26)
        have h3 := (Rw.blk_grown h2 HG3.out (fun e => by obtain ⟨cur, hb⟩ := own_blk HO2.out _ e.symm; exact blk_ne hb h2 (by decide) rfl)).far (p := ⟨w.heap.size, 1, none⟩) (by show wr.heap.size ≠ w.heap.size; omega) (.slice a3 (i + 1) c3)
        refine .inr ⟨wr.heap.size, 0, 1, rfl, Nat.le_refl _, .inr ⟨_, h3⟩, fun k hk => ?_⟩
        obtain rfl : k = 0 := by simpa using hk
        exact h3.cell 0)
      go_roundw
      case rel =>
        refine ⟨i + 1, .slice a3 (i + 1) c3, us ++ [slV wr.heap.size 1 1], by omega, by go_num, ?_, HB3.out.set 1 _, ?_, ?_⟩
        · exact ((HM2.out.grown HG3.out (fun k hk => .inr (by have := own_ge HO2.out k hk; omega))).setCell (p := ⟨w.heap.size, 1, none⟩) (.inr (Nat.le_refl _)) _)
        · rw [List.length_append, HUL.out]
          exact own_putB HO3.out (fun k hk => by obtain ⟨cur, hb⟩ := own_blk HO3.out k hk; exact blk_ne hb HB3.out (by decide))
        · have h := sq_snoc 0 i
          rw [Int.zero_add] at h
          rw [← h]
          exact all2_snoc HQ.out (all2_mono (fun u xs h => h.keptI HKI.out) HR.out)
      case measure => simp [intOf]; omega
    · obtain rfl : i = p := by omega
      have hpp : (i : Int) ≤ i := by omega
      have HRR : Hid (RrAt 0 wr (.slice va i vc) (sq 0 i)) := Lib.hid (RrAt.own (us := us) (by rw [HUL.out]; exact HO.out) HR.out)
      have TC := Lib.hid (rtext_calls base (.slice va i vc) (sq 0 i) HRR.out hb0 hb1 (by rw [sq_len]; omega) (fun r hr => ⟨sq_16 _ _ r hr, fun x hx => by have := (mayB_vals (sq_may i (by omega) r hr)).2.2 x hx; omega⟩))
      have OK : Hid (Okb base (sq 0 i)) := Lib.hid ⟨hb0, by rw [sq_len]; have := HBASE.out; omega, by rw [sq_len]; omega, sq_may i (by omega)⟩
      have hts : (txt base (sq 0 i)).size ≤ 9007199254740992 := by
        have h1 := (rowsT_size (headT base (sq 0 i).length) (sq 0 i) (sq_16 _ _)).2
        have h2 := headT_size base (sq 0 i).length
        rw [sq_len] at h1 h2
        unfold txt
        rw [sq_len]
        omega
      have LC := Lib.hid (fun w' => load_calls (txt base (sq 0 i)) w' hts)
      rw [load_txt OK.out] at LC
      clear hlt HRR HR HO hts
      go_wp2_with fail
      (with_reducible refine TC.out.mono ?_)
      rintro e w3 ⟨rfl, hm3⟩
      have HM3 := Lib.hid (HM.out.trans0 hm3)
      clear hm3 TC b0 b1 f1
      go_wp2_with fail
      refine (LC.out _).mono ?_
      rintro e w4 ⟨hm4, g, rfl, hk4⟩
      have HM4 := Lib.hid (HM3.out.trans0 hm4)
      have hs3 := HM3.out.size
      have HK4 : Hid (BookAt w4 w3.heap.size (fun _ => False) g base (sq 0 i)) := Lib.hid hk4
      clear hm4 hk4 LC
      have AW := Lib.hid awake_calls
      go_wp2_with fail
      (with_reducible refine (AW.out _).mono ?_)
      rintro e w5 ⟨rfl, hm5⟩
      have HB5 := Lib.hid (HM4.out.trans0 hm5).below0
      have HK5 := Lib.hid (HK4.out.mod hm5)
      have hs5 : w3.heap.size ≤ w5.heap.size := by have := hm5.size; have := HK4.out.1; obtain ⟨_, _, hb⟩ := HK4.out.rows; have := hb.lt; omega
      clear hm5 AW HM4 HK4 HM3 HM
      go_wp2_with fail
      have hsw : w.heap.size ≤ w3.heap.size := hs3
      obtain ⟨N, hN⟩ : ∃ N, w3.heap.size = N := ⟨_, rfl⟩
      rw [hN] at HK5 hs5 hsw
      have HSUM := Lib.hid (show base + ((sq 0 i).length : Int) + (q : Int) = 549755813888 by rw [sq_len]; have := HBASE.out; omega)
      clear hN hs3 HBASE
      generalize sq 0 i = rows0 at *
      go_loopw [9] (fun vj wr => ∃ (j : Nat) (b : Int) (rows : List (List Int)), j ≤ q ∧ vj = .int .i64 (j : Int) ∧ Okb b rows ∧ b + (rows.length : Int) + (q : Int) - (j : Int) = 549755813888 ∧ BookAt wr N (fun _ => False) g b rows ∧ Below w.heap.size w wr ∧ N ≤ wr.heap.size) (fun vj _ => q + 1 - (intOf vj).toNat)
      case atStart => exact ⟨0, base, rows0, Nat.zero_le _, rfl, OK.out, by have := HSUM.out; omega, HK5.out, HB5.out, hs5⟩
      case round =>
        obtain ⟨j, b, rows, hj, rfl, hok, hsum, hbk, hbl, hNs⟩ := hrel
        have HOK := Lib.hid hok
        have HBK := Lib.hid hbk
        have HBL := Lib.hid hbl
        have HS := Lib.hid hsum
        have hok1 := hok.lo
        have hok2 := hok.len
        clear hok hbk hbl hsum HK5 HB5 OK HSUM
        by_cases hjq : j < q
        · have hjq' : (j : Int) < q := by omega
          obtain ⟨b', rows', e1, e2, e3⟩ := put_ok (xs := [1, 2]) HOK.out (by decide) (by have := HS.out; omega)
          have PC0 := put_calls (HBK.out.mod ((Mod.refl wr []).alloc (.cells #[.int .i64 1, .int .i64 2] 3))) (.slice (some ⟨wr.heap.size, 0, none⟩) 2 2) [1, 2] (.inr (ints_two wr 1 2)) (by simp) hok1 (by have := HOK.out.hi; omega) hok2 (fun _ h => h.elim) (by simp; omega)
          rw [e1] at PC0
          have PC : Hid (Calls Try.prog 16 #[ptr g, .agg #[.slice (some ⟨wr.heap.size, 0, none⟩) 2 2]] (wr.alloc (.cells #[.int .i64 1, .int .i64 2] 3)) fun e w' => e = .returned (.int .i64 0) ∧ BookAt w' N (fun _ => False) g b' rows' ∧ Bw N g (wr.alloc (.cells #[.int .i64 1, .int .i64 2] 3)) w') := Lib.hid PC0
          clear PC0
          go_wp2_with fail
          refine PC.out.mono ?_
          rintro e w6 ⟨rfl, hk6, hw6⟩
          have HK6 := Lib.hid hk6
          have HB6 := Lib.hid ((HBL.out.trans (below_mod HBL.out.size ((Mod.refl wr []).alloc (.cells #[.int .i64 1, .int .i64 2] 3)))).trans (hw6.below.mono hsw))
          have hs6 : N ≤ w6.heap.size := by have := hw6.below.size; simp at this; omega
          clear hk6 hw6 PC HBK HBL
          go_wp2_with fail
          go_roundw
          case rel => exact ⟨j + 1, b', rows', by omega, by go_num, e2, by have := HS.out; push_cast; omega, HK6.out, HB6.out, hs6⟩
          case measure => simp [intOf]; omega
        · obtain rfl : j = q := by omega
          have hqq : (j : Int) ≤ j := by omega
          have hend : b + (rows.length : Int) = 549755813888 := by have := HS.out; omega
          have PC0 := put_calls (HBK.out.mod ((Mod.refl wr []).alloc (.cells #[.int .i64 1] 3))) (.slice (some ⟨wr.heap.size, 0, none⟩) 1 1) [1] (.inr (ints_one wr 1)) (by simp) hok1 (by omega) hok2 (fun _ h => h.elim) (by simp; omega)
          rw [put_end (by decide) hend] at PC0
          have PC : Hid (Calls Try.prog 16 #[ptr g, .agg #[.slice (some ⟨wr.heap.size, 0, none⟩) 1 1]] (wr.alloc (.cells #[.int .i64 1] 3)) fun e w' => e = .returned (.int .i64 2) ∧ BookAt w' N (fun _ => False) g b rows ∧ Bw N g (wr.alloc (.cells #[.int .i64 1] 3)) w') := Lib.hid PC0
          have HEND := Lib.hid hend
          clear PC0 hend HS
          go_wp2_with fail
          refine PC.out.mono ?_
          rintro e w6 ⟨rfl, hk6, hw6⟩
          have HB6 := Lib.hid ((HBL.out.trans (below_mod HBL.out.size ((Mod.refl wr []).alloc (.cells #[.int .i64 1] 3)))).trans (hw6.below.mono hsw))
          have EC := Lib.hid (end_calls hk6 (by omega) (by have := HEND.out; omega) (by omega))
          rw [HEND.out] at EC
          clear hk6 hw6 PC HBK HBL
          go_wp2_with fail
          (with_reducible refine EC.out.mono ?_)
          rintro e w7 ⟨rfl, hm7⟩
          have HB7 := Lib.hid (HB6.out.trans (below_mod HB6.out.size hm7))
          clear hm7
          go_wp2_with fail
          go_ret
          exact ⟨rfl, HB7.out⟩
end Go.Proofs.Ytceocpohdckkoaa.Bx
