/- The contract of keep's reading of a run. -/
import Derived.Test.YtcbafomhifdgpaaKd2
namespace Go.Proofs.Ytcbafomhifdgpaa.Ke
open Go.RowKit Mem Bits
set_option linter.unusedSimpArgs false
set_option linter.unusedVariables false
set_option maxRecDepth 100000

theorem info_int : (Try.prog.info? 3).map (fun i => (i.zero, i.size, i.bytes)) = some (some (.int .i64 0), 1, 8) := by kernel_rfl
theorem cell_one_new (w : World) (v : Value) (t : TypeId) : ∀ j u, ([v] : List Value)[j]? = some u → (w.alloc (.cells #[v] t)).cell? ((⟨w.heap.size, 0, none⟩ : Addr).add j) = some u := by
  intro j u hj
  match j, hj with
  | 0, hj => simp at hj; subst hj; simp [Addr.add]
/-- A slice of whole numbers, in a block of them. -/
def IntsT (N : Nat) (w : World) (v : Value) (l : List Int) : Prop :=
  (l = [] ∧ ∃ a cap, v = .slice a 0 cap) ∨ ∃ b cap cur, v = .slice (some ⟨b, 0, none⟩) l.length cap ∧ l.length ≤ cap ∧ cap ≤ maxLen ∧ N ≤ b ∧ Blk w b cur 3 ∧ ∀ i (hi : i < l.length), cur[i]? = some (.int .i64 l[i])
theorem IntsT.at {N : Nat} {w : World} {v : Value} {l : List Int} (h : IntsT N w v l) : IntsAt w v l := by
  rcases h with h | ⟨b, cap, cur, h1, h2, h3, hN, h4, h5⟩
  · exact .inl h
  · exact .inr ⟨b, 0, cap, h1, h2, h3, fun i hi => by rw [Nat.zero_add, h4.cell]; exact h5 i hi⟩
theorem IntsT.keep {N : Nat} {w w' : World} {v : Value} {l : List Int} (h : IntsT N w v l) (hk : ∀ k cs, Blk w k cs 3 → Blk w' k cs 3) : IntsT N w' v l := by
  rcases h with h | ⟨b, cap, cur, h1, h2, h3, hN, h4, h5⟩
  · exact .inl h
  · exact .inr ⟨b, cap, cur, h1, h2, h3, hN, hk _ _ h4, h5⟩
theorem IntsT.low {N N' : Nat} {w : World} {v : Value} {l : List Int} (h : IntsT N w v l) (hn : N' ≤ N) : IntsT N' w v l := by
  rcases h with h | ⟨b, cap, cur, h1, h2, h3, hN, h4, h5⟩
  · exact .inl h
  · exact .inr ⟨b, cap, cur, h1, h2, h3, by omega, h4, h5⟩
theorem IntsT.mod {N : Nat} {w w' : World} {v : Value} {l : List Int} {R : List Nat} (h : IntsT N w v l) (m : Mod w w' R) (hR : ∀ r ∈ R, r < N) : IntsT N w' v l := by
  rcases h with h | ⟨b, cap, cur, h1, h2, h3, hN, h4, h5⟩
  · exact .inl h
  · exact .inr ⟨b, cap, cur, h1, h2, h3, hN, h4.mod m (fun hm => by have := hR b hm; omega), h5⟩
theorem blk_ne {w : World} {k : Nat} {cs cs' : Array Value} {t t' : TypeId} (h : Blk w k cs t) (h' : Blk w k cs' t') : t = t' := by
  unfold Blk at h h'
  rw [h] at h'
  injection h' with h'
  injection h' with _ h2 _
theorem ints_of_own {w : World} {base : Nat} {v : Value} {l : List Int} {n : Nat} (h : w.ownsRow base 3 1 v n (l.map (Value.int .i64))) : IntsT base w v l := by
  obtain ⟨h0, ⟨rfl, h1⟩ | ⟨g, cap, cur, rfl, hg, hb, h2, h3, h4, h5⟩⟩ := h
  · subst h1
    have : l = [] := List.eq_nil_of_length_eq_zero (by rw [List.length_map] at h0; omega)
    exact .inl ⟨this, none, 0, rfl⟩
  · rw [List.length_map] at h0
    refine .inr ⟨g, cap, cur, by rw [show l.length = n by omega], by omega, h3, hg, hb, fun i hi => ?_⟩
    have h6 : (cur.toList.take (n * 1))[i]? = some (.int .i64 l[i]) := by
      rw [h5, List.getElem?_map, List.getElem?_eq_getElem hi]; rfl
    rw [List.getElem?_take, if_pos (by omega), Array.getElem?_toList] at h6
    exact h6

theorem goK_at0 (b : Int) (p : St) (i : Nat) (h : i = 0) : goK b p (i + 1) = ((goK b p i).1 ++ [(goK b p i).2.2], (goK b p i).2.1, (goK b p i).2.2) := by
  conv => lhs; unfold goK
  rw [if_pos h]
theorem goK_at1 (b : Int) (p : St) (i : Nat) (h : ¬ i = 0) : goK b p (i + 1) = ((goK b p i).1 ++ [(goK b p i).2.2 + (limL (nv (goK b p i).2.1) 549755813888 + 1)], nx (goK b p i).2.1, (goK b p i).2.2 + (limL (nv (goK b p i).2.1) 549755813888 + 1)) := by
  conv => lhs; unfold goK
  rw [if_neg h]
def ReadPost (g : Nat) (p : St) (w : World) (e : Ending) (w' : World) : Prop :=
  ∃ v, e = .returned (runV (runK p).1 v) ∧ Mod w w' [g] ∧ TapeAt w' g (runK p).2.1 (runK p).2.2 ∧ IntsT w.heap.size w' v (runK p).1.ps

set_option maxHeartbeats 4000000 in
theorem read_calls (g : Nat) (p : St) (w : World) (hs : p.1.size ≤ 140737488355328) (hb : TapeAt w g p.1 p.2) :
    Calls Try.prog 47 #[.pointer (some ⟨g, 0, none⟩)] w (ReadPost g p w) := by
  obtain ⟨i0, hi, hz0, hz1, hz2⟩ := info_parts info_int
  have hgl := hb.lt
  have HT0 := Lib.hid (Blk.alloc hb (.cells #[.int .i64 0, .int .i64 0, .int .i64 0, .int .u64 0, .slice none 0 0] 73))
  have HM0 := Lib.hid ((Mod.refl w [g]).alloc (.cells #[.int .i64 0, .int .i64 0, .int .i64 0, .int .u64 0, .slice none 0 0] 73))
  have HB0 := Lib.hid (Blk.new w #[.int .i64 0, .int .i64 0, .int .i64 0, .int .u64 0, .slice none 0 0] 73)
  have z1 := nx_size p
  have z2 := nx_size (nx p)
  have z3 := nx_size (nx (nx p))
  have z4 := nx_size (nx (nx (nx p)))
  have z5 := nx_size (nx (nx (nx (nx p))))
  have N1 := Lib.hid (fun w hb => number_calls g p 549755813888 549755813888 rfl (by decide) w hs hb)
  have N2 := Lib.hid (fun w hb => number_calls g (nx p) 9223372036854775807 9223372036854775807 rfl (by decide) w (by omega) hb)
  have N3 := Lib.hid (fun w hb => number_calls g (nx (nx p)) 64 64 rfl (by decide) w (by omega) hb)
  have N4 := Lib.hid (fun w hb => show Calls Try.prog 58 #[.pointer (some ⟨g, 0, none⟩)] w fun e w' => e = .returned (.int .u64 (nv (nx (nx (nx p))))) ∧ Mod w w' [g] ∧ TapeAt w' g (nx (nx (nx (nx p)))).1 (nx (nx (nx (nx p)))).2 from Num_calls g (nx (nx (nx p))).1 (nx (nx (nx p))).2 w (by omega) hb)
  have N5 := Lib.hid (fun w hb => number_calls g (nx (nx (nx (nx p)))) 16 16 rfl (by decide) w (by omega) hb)
  have hR : runK p = (⟨limL (nv p) 549755813888, limL (nv (nx p)) 9223372036854775807, limL (nv (nx (nx p))) 64, nv (nx (nx (nx p))),
    (goK (limL (nv p) 549755813888) (nx (nx (nx (nx (nx p))))) (limL (nv (nx (nx (nx (nx p))))) 16).toNat).1⟩,
    (goK (limL (nv p) 549755813888) (nx (nx (nx (nx (nx p))))) (limL (nv (nx (nx (nx (nx p))))) 16).toNat).2.1) := rfl
  have HR : Hid (runK p = _) := Lib.hid hR
  have hc := limL_bd (nv (nx (nx (nx (nx p))))) 16
  have hbd := limL_bd (nv p) 549755813888
  have HP5 : Hid ((nx (nx (nx (nx (nx p))))).1.size ≤ 140737488355328) := Lib.hid (by omega)
  clear hR hb z1 z2 z3 z4 z5
  generalize limL (nv p) 549755813888 = b at *
  generalize limL (nv (nx p)) 9223372036854775807 = st at *
  generalize limL (nv (nx (nx p))) 64 = s at *
  generalize nv (nx (nx (nx p))) = seen at *
  generalize limL (nv (nx (nx (nx (nx p))))) 16 = cn at *
  generalize nx (nx (nx (nx (nx p)))) = p5 at *
  generalize nx (nx (nx (nx p))) = p4 at *
  generalize nx (nx (nx p)) = p3 at *
  generalize nx (nx p) = p2 at *
  generalize nx p = p1 at *
  go_enter Try.func47, Try.ntmps47
  go_wp2_with fail
  (with_reducible refine (N1.out _ ?_).mono ?_)
  · exact HT0.out
  rintro e w1 ⟨rfl, hm1, ht1⟩
  have HM1 := Lib.hid (HM0.out.trans hm1 (by simp))
  have HB1 := Lib.hid (HB0.out.mod hm1 (by simp; omega))
  have HT1 := Lib.hid ht1
  clear hm1 ht1 HT0 HM0 HB0 N1
  go_wp2_with fail
  (with_reducible refine (N2.out _ ?_).mono ?_)
  · exact HT1.out
  rintro e w2 ⟨rfl, hm2, ht2⟩
  have HM2 := Lib.hid (HM1.out.trans hm2 (by simp))
  have HB2 := Lib.hid (HB1.out.mod hm2 (by simp; omega))
  have HT2 := Lib.hid ht2
  clear hm2 ht2 HT1 HM1 HB1 N2
  go_wp2_with fail
  (with_reducible refine (N3.out _ ?_).mono ?_)
  · exact HT2.out
  rintro e w3 ⟨rfl, hm3, ht3⟩
  have HM3 := Lib.hid (HM2.out.trans hm3 (by simp))
  have HB3 := Lib.hid (HB2.out.mod hm3 (by simp; omega))
  have HT3 := Lib.hid ht3
  clear hm3 ht3 HT2 HM2 HB2 N3
  go_wp2_with fail
  (with_reducible refine (N4.out _ ?_).mono ?_)
  · exact HT3.out
  rintro e w4 ⟨rfl, hm4, ht4⟩
  have HM4 := Lib.hid ((HM3.out.trans hm4 (by simp)).alloc (.cells #[.int .i64 b, .int .i64 st, .int .i64 s, .int .u64 seen, .slice none 0 0] 73))
  have HB4 := Lib.hid ((HB3.out.mod hm4 (by simp; omega)).alloc (.cells #[.int .i64 b, .int .i64 st, .int .i64 s, .int .u64 seen, .slice none 0 0] 73))
  have HT4 := Lib.hid (Blk.alloc ht4 (.cells #[.int .i64 b, .int .i64 st, .int .i64 s, .int .u64 seen, .slice none 0 0] 73))
  have HX4 := Lib.hid (Blk.new w4 #[.int .i64 b, .int .i64 st, .int .i64 s, .int .u64 seen, .slice none 0 0] 73)
  have hq : w.heap.size < w4.heap.size := (HB3.out.mod hm4 (by simp; omega)).lt
  clear hm4 ht4 HT3 HM3 HB3 N4
  go_wp2_with fail
  (with_reducible refine (N5.out _ ?_).mono ?_)
  · exact HT4.out
  rintro e w5 ⟨rfl, hm5, ht5⟩
  have HM5 := Lib.hid (HM4.out.trans hm5 (by simp))
  have HB5 := Lib.hid (HB4.out.mod hm5 (by simp; omega))
  have HX5 := Lib.hid (HX4.out.mod hm5 (by simp; omega))
  have HT5 := Lib.hid ht5
  clear hm5 ht5 HT4 HM4 HB4 HX4 N5
  obtain ⟨y0, y1, y2, y3, y4⟩ := Blk5c HX5.out
  go_wp2_with fail
  have hgx : g < w4.heap.size := by omega
  have hz5 : w4.heap.size < w5.heap.size := HX5.out.lt
  go_loopw [4, 19] (fun va vi wr => ∃ (i : Nat) (v : Value), i ≤ cn.toNat ∧ va = .int .i64 (goK b p5 i).2.2 ∧ vi = .int .i64 (i : Int) ∧ Mod w5 wr [g, w4.heap.size] ∧ TapeAt wr g (goK b p5 i).2.1.1 (goK b p5 i).2.1.2 ∧ Blk wr w4.heap.size #[.int .i64 b, .int .i64 st, .int .i64 s, .int .u64 seen, v] 73 ∧ wr.ownsRow w5.heap.size 3 1 v i ((goK b p5 i).1.map (Value.int .i64))) (fun _ vi _ => 20 - (intOf vi).toNat)
  case atStart => exact ⟨0, .slice none 0 0, Nat.zero_le _, rfl, rfl, Mod.refl _ _, HT5.out, HX5.out, rfl, .inl ⟨rfl, rfl⟩⟩
  case round =>
    obtain ⟨i, v, hile, rfl, rfl, hm, ht, hx, hown⟩ := hrel
    have HM := Lib.hid hm
    have HT := Lib.hid ht
    have HBX := Lib.hid hx
    have HOWN := Lib.hid hown
    have HG := Lib.hid (own_ge hown)
    have hzr : w5.heap.size ≤ wr.heap.size := hm.size
    have hgb := goK_bd b p5 (by omega) i
    have hgs := goK_size b p5 i
    by_cases hlt : (i : Int) < cn
    · have HL := Lib.hid (goK_len b p5 i)
      have hbb := hgb.1
      by_cases hi0 : i = 0
      · have HK : Hid (goK b p5 (i + 1) = ((goK b p5 i).1 ++ [(goK b p5 i).2.2], (goK b p5 i).2.1, (goK b p5 i).2.2)) := Lib.hid (goK_at0 b p5 i hi0)
        have hi0' : decide (0 < (i : Int)) = false := decide_eq_false (by omega)
        have hi1' : (i : Int) ≤ 0 := by omega
        clear hi0
        have hown2 := hown
        have HM2 := HM
        have HT2 := HT
        have HBX2 := HBX
        clear hm ht hgb hgs HOWN hown
        generalize (goK b p5 i).1 = L at *
        generalize (goK b p5 i).2.2 = at0 at *
        generalize (goK b p5 i).2.1 = q at *
        obtain ⟨x0, x1, x2, x3, x4⟩ := Blk5c hx
        have xf := hx.free 4
        clear hx
        go_wp2_with (at_builtin; refine wpList_append_own _ rfl _ _ 43 rfl w5.heap.size 3 i0 (.int .i64 0) 1 8 Try.underlying43 hi hz0 hz1 hz2 rfl (by decide) _ _ _ rfl (hown2.alloc _) ⟨wr.heap.size, 0, none⟩ 1 1 [.int .i64 at0] rfl rfl (cell_one_new _ _ _) (by simp [Value.oneCell']) (by unfold maxLen; omega) (by omega) (by simp; omega) ?_; intro v' w7 hown' hgrow hnil; clear hnil; obtain ⟨ga, gc, rfl⟩ := Rw.own_slice hown'; have HB7 := Lib.hid (Rw.blk_grown (HBX2.out.alloc (.cells #[.int .i64 at0] 3)) hgrow (fun h => by have := HG.out _ h.symm; omega)); have x4' := HB7.out.cell 4; have xf' := HB7.out.free 4)
        go_roundw
        case rel =>
          have HM7 := (HM2.out.alloc (.cells #[.int .i64 at0] 3)).grown hgrow (fun k hk => .inr (by have := HG.out k hk; omega))
          have hms : Mod w7 (w7.setCell ⟨w4.heap.size, 4, none⟩ (.slice ga (i + 1) gc)) [w4.heap.size] := (Mod.refl _ _).setCell (by simp) _
          refine ⟨i + 1, _, by omega, by rw [HK.out], by go_num, HM7.trans hms (by simp), ?_, HB7.out.set 4 _, ?_⟩
          · have ht7 : TapeAt w7 g q.1 q.2 := Rw.blk_grown (Blk.alloc HT2.out (.cells #[.int .i64 at0] 3)) hgrow (fun h => by have := HG.out _ h.symm; omega)
            rw [HK.out]
            exact Blk.mod ht7 hms (by simp; omega)
          · rw [HK.out]
            have h8 := own_mod hown' hms (fun k hk => by have := own_ge hown' k hk; simp; omega)
            simpa [HL.out] using h8
        case measure => simp [intOf]; omega
      · have HK : Hid (goK b p5 (i + 1) = ((goK b p5 i).1 ++ [(goK b p5 i).2.2 + (limL (nv (goK b p5 i).2.1) 549755813888 + 1)], nx (goK b p5 i).2.1, (goK b p5 i).2.2 + (limL (nv (goK b p5 i).2.1) 549755813888 + 1))) := Lib.hid (goK_at1 b p5 i hi0)
        have hi0' : decide (0 < (i : Int)) = true := decide_eq_true (by omega)
        have hi1' : 0 < (i : Int) := by omega
        have NC := Lib.hid (fun w hb => number_calls g (goK b p5 i).2.1 549755813888 549755813888 rfl (by decide) w (by have := HP5.out; omega) hb)
        have hnn := limL_bd (nv (goK b p5 i).2.1) 549755813888
        clear hm ht hgb hgs hown hx hi0
        generalize (goK b p5 i).1 = L at *
        generalize (goK b p5 i).2.2 = at0 at *
        generalize (goK b p5 i).2.1 = q at *
        generalize limL (nv q) 549755813888 = nn at *
        go_wp2_with fail
        (with_reducible refine (NC.out _ ?_).mono ?_)
        · exact HT.out
        rintro e w6 ⟨rfl, hm6, ht6⟩
        have HM2 := Lib.hid (HM.out.trans hm6 (by simp))
        have HT2 := Lib.hid ht6
        have HBX2 := Lib.hid (HBX.out.mod hm6 (by simp; omega))
        have hown2 := own_mod HOWN.out hm6 (fun k hk => by have := HG.out k hk; simp; omega)
        have hz6 := hm6.size
        clear hm6 ht6 HOWN
        obtain ⟨x0, x1, x2, x3, x4⟩ := Blk5c HBX2.out
        have xf := HBX2.out.free 4
        go_wp2_with (at_builtin; refine wpList_append_own _ rfl _ _ 43 rfl w5.heap.size 3 i0 (.int .i64 0) 1 8 Try.underlying43 hi hz0 hz1 hz2 rfl (by decide) _ _ _ rfl (hown2.alloc _) ⟨w6.heap.size, 0, none⟩ 1 1 [.int .i64 (at0 + (nn + 1))] rfl rfl (cell_one_new _ _ _) (by simp [Value.oneCell']) (by unfold maxLen; omega) (by omega) (by simp; omega) ?_; intro v' w7 hown' hgrow hnil; clear hnil; obtain ⟨ga, gc, rfl⟩ := Rw.own_slice hown'; have HB7 := Lib.hid (Rw.blk_grown (HBX2.out.alloc (.cells #[.int .i64 (at0 + (nn + 1))] 3)) hgrow (fun h => by have := HG.out _ h.symm; omega)); have x4' := HB7.out.cell 4; have xf' := HB7.out.free 4)
        go_roundw
        case rel =>
          have HM7 := (HM2.out.alloc (.cells #[.int .i64 (at0 + (nn + 1))] 3)).grown hgrow (fun k hk => .inr (by have := HG.out k hk; omega))
          have hms : Mod w7 (w7.setCell ⟨w4.heap.size, 4, none⟩ (.slice ga (i + 1) gc)) [w4.heap.size] := (Mod.refl _ _).setCell (by simp) _
          refine ⟨i + 1, _, by omega, by rw [HK.out], by go_num, HM7.trans hms (by simp), ?_, HB7.out.set 4 _, ?_⟩
          · have ht7 : TapeAt w7 g (nx q).1 (nx q).2 := Rw.blk_grown (Blk.alloc HT2.out (.cells #[.int .i64 (at0 + (nn + 1))] 3)) hgrow (fun h => by have := HG.out _ h.symm; omega)
            rw [HK.out]
            exact Blk.mod ht7 hms (by simp; omega)
          · rw [HK.out]
            have h8 := own_mod hown' hms (fun k hk => by have := own_ge hown' k hk; simp; omega)
            simpa [HL.out] using h8
        case measure => simp [intOf]; omega
    · have hge : cn ≤ (i : Int) := by omega
      have hii : i = cn.toNat := by omega
      subst hii
      obtain ⟨va, vc, rfl⟩ := Rw.own_slice hown
      obtain ⟨x0, x1, x2, x3, x4⟩ := Blk5c hx
      have hb2 := HB5.out.mod hm (by simp; omega)
      obtain ⟨r0, r1, r2, r3, r4⟩ := Blk5c hb2
      have f0 := hb2.free 0
      have f1 := hb2.free 1
      have f2 := hb2.free 2
      have f3 := hb2.free 3
      have f4 := hb2.free 4
      clear hb2 hm ht hx hgb hgs hown
      go_wp2_with fail
      have hms : Mod wr (((((wr.setCell ⟨w.heap.size, 0, none⟩ (.int .i64 b)).setCell ⟨w.heap.size, 1, none⟩ (.int .i64 st)).setCell ⟨w.heap.size, 2, none⟩ (.int .i64 s)).setCell ⟨w.heap.size, 3, none⟩ (.int .u64 seen)).setCell ⟨w.heap.size, 4, none⟩ (.slice va cn.toNat vc)) [w.heap.size] :=
        (((((Mod.refl wr [w.heap.size]).setCell (by simp) _).setCell (by simp) _).setCell (by simp) _).setCell (by simp) _).setCell (by simp) _
      have HF := (HM5.out.trans HM.out (by simp; omega)).trans hms (by simp)
      have HT9 := Blk.mod HT.out hms (by simp; omega)
      have HO9 := (ints_of_own (own_mod HOWN.out hms (fun k hk => by have := HG.out k hk; simp; omega))).low (N' := w.heap.size) (by omega)
      refine bodyPost_ret (v := runV ⟨b, st, s, seen, (goK b p5 cn.toNat).1⟩ (.slice va cn.toNat vc)) (by simp [results, Try.results47, go_sem, r0, r1, r2, r3, r4]) rfl ?_
      unfold ReadPost
      rw [HR.out]
      exact ⟨_, rfl, HF, HT9, HO9⟩
end Go.Proofs.Ytcbafomhifdgpaa.Ke
