/- The contract of the reference's Read. -/
import Derived.Test.YtcbafomhifdgpaaKd5
import Derived.Test.YtcbafomhifdgpaaRef3
namespace Go.Proofs.Ytcbafomhifdgpaa.Ke
open Go.RowKit Mem Bits
set_option linter.unusedSimpArgs false
set_option linter.unusedVariables false
set_option maxRecDepth 100000

theorem lim_calls (n most : Nat) (mi : Int) (hmi : mi = (most : Int)) (hm : most ≤ 9223372036854775807) (hn : n < 18446744073709551616) (w : World) :
    Calls Try.prog 50 #[.int .u64 n, .int .u64 mi] w fun e w' => e = .returned (.int .i64 (limL n most)) ∧ w = w' := by
  subst hmi
  by_cases h : most < n
  · have hL : limL n most = -1 := by unfold limL; rw [if_pos h]
    rw [hL]
    have h' : (most : Int) < n := by omega
    clear hL h
    go_enter Try.func50, Try.ntmps50
    go_wp2
    go_ret
    exact ⟨rfl, rfl⟩
  · have hL : limL n most = n := by unfold limL; rw [if_neg h]
    rw [hL]
    have h' : (n : Int) ≤ most := by omega
    have hw := IntWalk.i64_in (n : Int) (by omega)
    clear hL h
    go_enter Try.func50, Try.ntmps50
    go_wp2
    go_ret
    exact ⟨rfl, rfl⟩
theorem rnx_calls (p : St) (w : World) (hs : p.1.size ≤ 140737488355328) :
    Calls Try.prog 49 #[tapeV p.1 p.2] w fun e w' => e = .returned (.tuple #[tapeV (nx p).1 (nx p).2, .int .u64 (nv p)]) ∧ Mod w w' [] := rNum_calls p.1 p.2 w hs

theorem runsR_none (p : St) : ∀ d i, runsR p i = none → runsR p (i + d) = none := by
  intro d
  induction d with
  | zero => intro i h; exact h
  | succ d ih =>
    intro i h
    rw [← Nat.add_assoc]
    unfold runsR
    rw [ih i h]
theorem runsR_step {p : St} {i : Nat} {l : List Run} {q : St} (h : runsR p i = some (l, q)) : runsR p (i + 1) = match runR q with | none => none | some (r, q') => some (l ++ [r], q') := by
  conv => lhs; unfold runsR
  rw [h]
  rfl
theorem runsR_bad {p : St} {i n : Nat} {l : List Run} {q : St} (h : runsR p i = some (l, q)) (hr : runR q = none) (hn : i < n) : runsR p n = none := by
  have h1 := runsR_step h
  rw [hr] at h1
  have := runsR_none p (n - (i + 1)) (i + 1) h1
  rwa [show i + 1 + (n - (i + 1)) = n by omega] at this
theorem runR_ok {p : St} {r : Run} {q : St} (h : runR p = some (r, q)) : RunOK r ∧ r.ps.length ≤ 16 := by
  unfold runR at h
  split at h
  · cases h
  · rename_i h1
    split at h
    · cases h
    · rename_i ps q' k hg
      have hk := goK_some _ _ _ _ _ _ hg
      have hb := limL_bd (nv p) 549755813888
      have h2 := (goK_bd (limL (nv p) 549755813888) (nx (nx (nx (nx (nx p))))) (by omega) (nv (nx (nx (nx (nx p)))) - 1 + 1)).2
      have h3 := goK_len (limL (nv p) 549755813888) (nx (nx (nx (nx (nx p))))) (nv (nx (nx (nx (nx p)))) - 1 + 1)
      rw [hk] at h2 h3
      have he := Option.some.inj h
      injection he with e1 e2
      rw [← e1]
      exact ⟨⟨limL_I (by decide), limL_I (by decide), limL_I (by decide), nv_lt _, fun x hx => by have := h2 x hx; exact ⟨by omega, by omega⟩⟩, by dsimp only at h3 ⊢; omega⟩
theorem runsR_ok {p : St} : ∀ (i : Nat) (l : List Run) (q : St), runsR p i = some (l, q) → (∀ r ∈ l, RunOK r ∧ r.ps.length ≤ 16) ∧ l.length = i := by
  intro i
  induction i with
  | zero =>
    intro l q h
    have : (([] : List Run), p) = (l, q) := Option.some.inj h
    injection this with e1 e2
    subst e1
    exact ⟨(by intro r hr; cases hr), rfl⟩
  | succ i ih =>
    intro l q h
    unfold runsR at h
    split at h
    · cases h
    · rename_i l' q' hl
      split at h
      · cases h
      · rename_i r q'' hr
        have he := Option.some.inj h
        injection he with e1 e2
        obtain ⟨h1, h2⟩ := ih l' q' hl
        subst e1
        refine ⟨fun x hx => ?_, by rw [List.length_append, h2]; rfl⟩
        rcases List.mem_append.1 hx with hx | hx
        · exact h1 x hx
        · rw [List.mem_singleton] at hx; subst hx; exact runR_ok hr
theorem goR_none (b : Int) (p : St) : ∀ d j, goR b p j = none → goR b p (j + d) = none := by
  intro d
  induction d with
  | zero => intro j h; exact h
  | succ d ih =>
    intro j h
    rw [← Nat.add_assoc]
    unfold goR
    rw [ih j h]
theorem goR_step {b : Int} {p : St} {j : Nat} {ps : List Int} {q : St} {k : Int} (h : goR b p j = some (ps, q, k)) : goR b p (j + 1) = if 549755813888 < nv q then none else some (ps ++ [k + nv q + 1], nx q, k + nv q + 1) := by
  conv => lhs; unfold goR
  rw [h]
theorem goR_bd {b : Int} {p : St} {j : Nat} {ps : List Int} {q : St} {k : Int} (hb : -1 ≤ b ∧ b ≤ 549755813888) (h : goR b p j = some (ps, q, k)) : -1 ≤ k ∧ k ≤ 549755813888 + (j + 1) * 549755813889 := by
  have h1 := goK_some b p j ps q k h
  have h2 := (goK_bd b p hb (j + 1)).1
  rw [h1] at h2
  dsimp only at h2
  omega
theorem hold {p : Prop} (h : Hid p) : p := h.out
theorem mod_set4 {a b : World} {R : List Nat} {k : Nat} (h : Mod a b R) (hk : a.heap.size ≤ k) (v0 v1 v2 v3 : Value) : Mod a ((((b.setCell ⟨k, 0, none⟩ v0).setCell ⟨k, 1, none⟩ v1).setCell ⟨k, 2, none⟩ v2).setCell ⟨k, 3, none⟩ v3) R :=
  (((h.setCell (p := ⟨k, 0, none⟩) (.inr hk) _).setCell (p := ⟨k, 1, none⟩) (.inr hk) _).setCell (p := ⟨k, 2, none⟩) (.inr hk) _).setCell (p := ⟨k, 3, none⟩) (.inr hk) _
theorem read_bad {s : ByteArray} {w w' : World} (h : (match rD s with | some t => (t, (0 : Int)) | none => (zeroT, 3)) = (outD s, errD s)) (hn : rD s = none) (hm : Mod w w' []) :
    ReadOut s w (.returned (.tuple #[trkV zeroT (.slice none 0 0), .int .i64 3])) w' := by
  rw [hn] at h
  injection h with h1 h2
  unfold ReadOut
  rw [← h1, ← h2]
  exact ⟨_, rfl, hm, .inl ⟨rfl, none, 0, rfl⟩⟩
theorem read_good {s : ByteArray} {w w' : World} {t : Trk} {v : Value} (h : (match rD s with | some t => (t, (0 : Int)) | none => (zeroT, 3)) = (outD s, errD s)) (hn : rD s = some t) (hm : Mod w w' []) (hr : RunsAt w' v t.rs) :
    ReadOut s w (.returned (.tuple #[trkV t v, .int .i64 0])) w' := by
  rw [hn] at h
  injection h with h1 h2
  unfold ReadOut
  rw [← h1, ← h2]
  exact ⟨_, rfl, hm, hr⟩

set_option maxHeartbeats 8000000 in
theorem rread_calls (s : ByteArray) (hs : s.size ≤ 140737488351232) (w : World) :
    Calls Try.prog 18 #[.string s] w (ReadOut s w) := by
  have RQ := Lib.hid (rD_eq s)
  have NC := Lib.hid (fun p w (h : p.1.size ≤ s.size) => rnx_calls p w (by omega))
  have LC := Lib.hid lim_calls
  have hz0 : (s, (0 : Int)).1.size ≤ s.size := Nat.le_refl _
  have hz1 := Nat.le_trans (nx_size _) hz0
  have hz2 := Nat.le_trans (nx_size _) hz1
  have hz3 := Nat.le_trans (nx_size _) hz2
  have N1 := Lib.hid (fun w => NC.out (s, 0) w hz0)
  have N2 := Lib.hid (fun w => NC.out _ w hz1)
  have N3 := Lib.hid (fun w => NC.out _ w hz2)
  have N4 := Lib.hid (fun w => NC.out _ w hz3)
  have hl1 := nv_lt (s, 0)
  have hl2 := nv_lt (nx (s, 0))
  have hl3 := nv_lt (nx (nx (s, 0)))
  have hl4 := nv_lt (nx (nx (nx (s, 0))))
  have L1 := Lib.hid (fun w => lim_calls (nv (s, 0)) 549755813888 549755813888 rfl (by decide) hl1 w)
  have L2 := Lib.hid (fun w => lim_calls (nv (nx (s, 0))) 9223372036854775807 9223372036854775807 rfl (by decide) hl2 w)
  have L3 := Lib.hid (fun w => lim_calls (nv (nx (nx (s, 0)))) 549755813888 549755813888 rfl (by decide) hl3 w)
  have HRD : Hid (rD s = _) := Lib.hid (show rD s = if 64 < nv (nx (nx (nx (s, 0)))) then none else
    match runsR (nx (nx (nx (nx (s, 0))))) (nv (nx (nx (nx (s, 0))))) with
    | none => none
    | some (l, q) => if endE q.1 q.2 = 0 ∧ trkB ⟨limL (nv (s, 0)) 549755813888, limL (nv (nx (s, 0))) 9223372036854775807, limL (nv (nx (nx (s, 0)))) 549755813888, l⟩ = true
        then some ⟨limL (nv (s, 0)) 549755813888, limL (nv (nx (s, 0))) 9223372036854775807, limL (nv (nx (nx (s, 0)))) 549755813888, l⟩ else none from rfl)
  have hc := @limL_I (nv (s, 0)) 549755813888 (by decide)
  have hst := @limL_I (nv (nx (s, 0))) 9223372036854775807 (by decide)
  have hlo := @limL_I (nv (nx (nx (s, 0)))) 549755813888 (by decide)
  have hp4 := Nat.le_trans (nx_size _) hz3
  have HP4 := Lib.hid hp4
  clear hz0 hz1 hz2 hz3 hl1 hl2 hl3 hp4
  dsimp only at N1
  generalize limL (nv (s, 0)) 549755813888 = c at *
  generalize limL (nv (nx (s, 0))) 9223372036854775807 = st at *
  generalize limL (nv (nx (nx (s, 0)))) 549755813888 = lo at *
  generalize nv (s, 0) = n1 at *
  generalize nv (nx (s, 0)) = n2 at *
  generalize nv (nx (nx (s, 0))) = n3 at *
  generalize nv (nx (nx (nx (s, 0)))) = n at *
  generalize nx (nx (nx (nx (s, 0)))) = p4 at *
  generalize nx (nx (nx (s, 0))) = p3 at *
  generalize nx (nx (s, 0)) = p2 at *
  generalize nx (s, 0) = p1 at *
  go_enter Try.func18, Try.ntmps18
  go_wp2_with fail
  (with_reducible refine (N1.out _).mono ?_)
  rintro e w1 ⟨rfl, hm1⟩
  have HM1 := Lib.hid ((((Mod.refl w []).alloc (.cells #[.int .i64 0, .int .i64 0, .int .i64 0, .slice none 0 0] 34)).alloc (.cells #[.int .i64 0, .int .i64 0, .int .i64 0, .slice none 0 0] 34)).trans0 hm1)
  have HR1 := Lib.hid (((Blk.new w #[.int .i64 0, .int .i64 0, .int .i64 0, .slice none 0 0] 34).alloc (.cells #[.int .i64 0, .int .i64 0, .int .i64 0, .slice none 0 0] 34)).mod hm1 (by simp))
  have hz1 := Blk.new (w.alloc (.cells #[.int .i64 0, .int .i64 0, .int .i64 0, .slice none 0 0] 34)) #[.int .i64 0, .int .i64 0, .int .i64 0, .slice none 0 0] 34
  rw [World.size_alloc] at hz1
  have HZ1 := Lib.hid (hz1.mod hm1 (by simp))
  clear hm1 hz1 N1
  go_wp2_with fail
  (with_reducible refine (N2.out _).mono ?_)
  rintro e w2 ⟨rfl, hm2⟩
  have HM2 := Lib.hid ((HM1.out.alloc (.cells #[.string p1.1, .int .i64 p1.2] 94)).trans0 hm2)
  have HR2 := Lib.hid ((HR1.out.alloc (.cells #[.string p1.1, .int .i64 p1.2] 94)).mod hm2 (by simp))
  have HZ2 := Lib.hid ((HZ1.out.alloc (.cells #[.string p1.1, .int .i64 p1.2] 94)).mod hm2 (by simp))
  clear hm2 HM1 HR1 HZ1 N2
  go_wp2_with fail
  (with_reducible refine (N3.out _).mono ?_)
  rintro e w3 ⟨rfl, hm3⟩
  have HM3 := Lib.hid ((HM2.out.alloc (.cells #[.string p2.1, .int .i64 p2.2] 94)).trans0 hm3)
  have HR3 := Lib.hid ((HR2.out.alloc (.cells #[.string p2.1, .int .i64 p2.2] 94)).mod hm3 (by simp))
  have HZ3 := Lib.hid ((HZ2.out.alloc (.cells #[.string p2.1, .int .i64 p2.2] 94)).mod hm3 (by simp))
  clear hm3 HM2 HR2 HZ2 N3
  go_wp2_with fail
  (with_reducible refine (N4.out _).mono ?_)
  rintro e w4 ⟨rfl, hm4⟩
  have HM4 := Lib.hid ((HM3.out.alloc (.cells #[.string p3.1, .int .i64 p3.2] 94)).trans0 hm4)
  have HR4 := Lib.hid ((HR3.out.alloc (.cells #[.string p3.1, .int .i64 p3.2] 94)).mod hm4 (by simp))
  have HZ4 := Lib.hid ((HZ3.out.alloc (.cells #[.string p3.1, .int .i64 p3.2] 94)).mod hm4 (by simp))
  clear hm4 HM3 HR3 HZ3 N4
  have HT5 := Lib.hid (Blk.new w4 #[.string p4.1, .int .i64 p4.2] 94)
  have HM5 := Lib.hid (HM4.out.alloc (.cells #[.string p4.1, .int .i64 p4.2] 94))
  have HR5 := Lib.hid (HR4.out.alloc (.cells #[.string p4.1, .int .i64 p4.2] 94))
  have HZ5 := Lib.hid (HZ4.out.alloc (.cells #[.string p4.1, .int .i64 p4.2] 94))
  have hr4 := HR4.out.lt
  have hz4 := HZ4.out.lt
  have HM6 := Lib.hid (HM5.out.alloc (.cells #[.int .i64 c, .int .i64 st, .int .i64 lo, .slice none 0 0] 34))
  have HR6 := Lib.hid (HR5.out.alloc (.cells #[.int .i64 c, .int .i64 st, .int .i64 lo, .slice none 0 0] 34))
  have HZ6 := Lib.hid (HZ5.out.alloc (.cells #[.int .i64 c, .int .i64 st, .int .i64 lo, .slice none 0 0] 34))
  have HT6 := Lib.hid (HT5.out.alloc (.cells #[.int .i64 c, .int .i64 st, .int .i64 lo, .slice none 0 0] 34))
  have hx6 := Blk.new (w4.alloc (.cells #[.string p4.1, .int .i64 p4.2] 94)) #[.int .i64 c, .int .i64 st, .int .i64 lo, .slice none 0 0] 34
  rw [World.size_alloc] at hx6
  have HX6 := Lib.hid hx6
  have hgr : w.heap.size < w4.heap.size := hr4
  have hgz : w.heap.size + 1 < w4.heap.size := hz4
  clear HM5 HR5 HZ5 HT5 hx6
  by_cases hN : 64 < n
  · have hN' : 64 < (n : Int) := by omega
    have HRn : Hid (rD s = none) := Lib.hid (by rw [HRD.out, if_pos hN])
    clear hN HRD
    obtain ⟨z0, z1, z2, z3⟩ := Blk4c HZ4.out
    obtain ⟨r0, r1, r2, r3⟩ := Blk4c HR4.out
    have f0 := (HR4.out).free 0
    have f1 := (HR4.out).free 1
    have f2 := (HR4.out).free 2
    have f3 := (HR4.out).free 3
    clear HR4 HZ4
    go_wp2_with (first | ((with_reducible refine (L1.out _).mono ?_); rintro e w' ⟨rfl, rfl⟩) | ((with_reducible refine (L2.out _).mono ?_); rintro e w' ⟨rfl, rfl⟩) | ((with_reducible refine (L3.out _).mono ?_); rintro e w' ⟨rfl, rfl⟩))
    refine bodyPost_ret (v := .tuple #[trkV zeroT (.slice none 0 0), .int .i64 3]) (by simp [results, Try.results18, go_sem, r0, r1, r2, r3, zeroT, hgr]) rfl (read_bad RQ.out HRn.out ?_)
    first | exact ((mod_set4 HM4.out (Nat.le_refl _) _ _ _ _).alloc _).alloc _ | exact mod_set4 HM6.out (Nat.le_refl _) _ _ _ _
  · have hN' : (n : Int) ≤ 64 := by omega
    have hwn := IntWalk.i64_in (n : Int) (by omega)
    have HRD2 : Hid (rD s = match runsR p4 n with
      | none => none
      | some (l, q) => if endE q.1 q.2 = 0 ∧ trkB ⟨c, st, lo, l⟩ = true then some ⟨c, st, lo, l⟩ else none) := Lib.hid (by rw [HRD.out, if_neg hN])
    have H64 : Hid (n ≤ 64) := Lib.hid (by omega)
    clear hN HRD HR4 HZ4 HM4
    obtain ⟨i0, hi, hz0, hz1, hz2⟩ := info_parts info_run
    go_wp2_with (first | ((with_reducible refine (L1.out _).mono ?_); rintro e w' ⟨rfl, rfl⟩) | ((with_reducible refine (L2.out _).mono ?_); rintro e w' ⟨rfl, rfl⟩) | ((with_reducible refine (L3.out _).mono ?_); rintro e w' ⟨rfl, rfl⟩))
    have hW : w4.heap.size + 1 < ((w4.alloc (.cells #[.string p4.1, .int .i64 p4.2] 94)).alloc (.cells #[.int .i64 c, .int .i64 st, .int .i64 lo, .slice none 0 0] 34)).heap.size := HX6.out.lt
    generalize (w4.alloc _).alloc _ = W at HM6 HR6 HZ6 HT6 HX6 hW ⊢
    go_loopw [14] (fun vi wr => ∃ (i : Nat) (v : Value) (xs : List (Run × Value)) (q : St), i ≤ n ∧ vi = .int .i64 (i : Int) ∧ Mod W wr [w4.heap.size, w4.heap.size + 1] ∧ runsR p4 i = some (xs.map (·.1), q) ∧ q.1.size ≤ s.size ∧ Blk wr w4.heap.size #[.string q.1, .int .i64 q.2] 94 ∧ Blk wr (w4.heap.size + 1) #[.int .i64 c, .int .i64 st, .int .i64 lo, v] 34 ∧ (∀ x ∈ xs, IntsT W.heap.size wr x.2 x.1.ps) ∧ wr.ownsRow W.heap.size 86 5 v i (flatR xs)) (fun vi _ => 70 - (intOf vi).toNat)
    case atStart => exact ⟨0, .slice none 0 0, [], p4, Nat.zero_le _, rfl, Mod.refl _ _, rfl, HP4.out, HT6.out, HX6.out, by simp, rfl, .inl ⟨rfl, rfl⟩⟩
    case round =>
      obtain ⟨i, v, xs, q, hile, rfl, hm, hrr, hqs, ht, hx, hints, hown⟩ := hrel
      have HM := Lib.hid hm
      have HRR := Lib.hid hrr
      have HT := Lib.hid ht
      have HX := Lib.hid hx
      have HINT := Lib.hid hints
      have HOWN := Lib.hid hown
      have HG := Lib.hid (own_ge hown)
      have hzr := hm.size
      have HR := Lib.hid (HR6.out.mod hm (by simp; omega))
      have HZ := Lib.hid (HZ6.out.mod hm (by simp; omega))
      by_cases hlt : (i : Int) < n
      · have hs1 := Nat.le_trans (nx_size q) hqs
        have hs2 := Nat.le_trans (nx_size (nx q)) hs1
        have hs3 := Nat.le_trans (nx_size (nx (nx q))) hs2
        have hs4 := Nat.le_trans (nx_size (nx (nx (nx q)))) hs3
        have hs5 := Nat.le_trans (nx_size (nx (nx (nx (nx q))))) hs4
        have A1 := Lib.hid (fun w => NC.out q w hqs)
        have A2 := Lib.hid (fun w => NC.out (nx q) w hs1)
        have A3 := Lib.hid (fun w => NC.out (nx (nx q)) w hs2)
        have A4 := Lib.hid (fun w => NC.out (nx (nx (nx q))) w hs3)
        have A5 := Lib.hid (fun w => NC.out (nx (nx (nx (nx q)))) w hs4)
        have l1 := nv_lt q
        have l2 := nv_lt (nx q)
        have l3 := nv_lt (nx (nx q))
        have l4 := nv_lt (nx (nx (nx q)))
        have l5 := nv_lt (nx (nx (nx (nx q))))
        have B1 := Lib.hid (fun w => lim_calls (nv q) 549755813888 549755813888 rfl (by decide) l1 w)
        have B2 := Lib.hid (fun w => lim_calls (nv (nx q)) 9223372036854775807 9223372036854775807 rfl (by decide) l2 w)
        have B3 := Lib.hid (fun w => lim_calls (nv (nx (nx q))) 63 63 rfl (by decide) l3 w)
        have HRUN : Hid (runR q = if nv (nx (nx (nx (nx q)))) < 1 ∨ 15 < nv (nx (nx (nx (nx q)))) then none else
          match goR (limL (nv q) 549755813888) (nx (nx (nx (nx (nx q))))) (nv (nx (nx (nx (nx q)))) - 1) with
          | none => none
          | some (ps, q', _) => some (⟨limL (nv q) 549755813888, limL (nv (nx q)) 9223372036854775807, limL (nv (nx (nx q))) 63, nv (nx (nx (nx q))), ps⟩, q')) := Lib.hid rfl
        have hbd := limL_bd (nv q) 549755813888
        obtain ⟨t0, t1, t2, t3⟩ := Blk2 ht
        clear hm hrr ht hx hints hown hs1 hs2 hs3 hs4 l1 l2 l3
        generalize limL (nv q) 549755813888 = b at *
        generalize limL (nv (nx q)) 9223372036854775807 = rst at *
        generalize limL (nv (nx (nx q))) 63 = rs at *
        generalize nv q = m1 at *
        generalize nv (nx q) = m2 at *
        generalize nv (nx (nx q)) = m3 at *
        generalize nv (nx (nx (nx q))) = seen at *
        generalize nv (nx (nx (nx (nx q)))) = k at *
        generalize nx (nx (nx (nx (nx q)))) = q5 at *
        generalize nx (nx (nx (nx q))) = q4 at *
        generalize nx (nx (nx q)) = q3 at *
        generalize nx (nx q) = q2 at *
        generalize nx q = q1 at *
        obtain ⟨wo, rfl⟩ : ∃ wo : World, wo = wr := ⟨_, rfl⟩
        go_wp2_with fail
        (with_reducible refine (A1.out _).mono ?_)
        rintro e w11 ⟨rfl, hm11⟩
        have HD1 := Lib.hid hm11
        clear hm11
        go_wp2_with fail
        (with_reducible refine (A2.out _).mono ?_)
        rintro e w12 ⟨rfl, hm12⟩
        have HD2 := Lib.hid ((HD1.out.alloc (.cells #[.string q1.1, .int .i64 q1.2] 94)).trans0 hm12)
        clear hm12 HD1
        go_wp2_with fail
        (with_reducible refine (A3.out _).mono ?_)
        rintro e w13 ⟨rfl, hm13⟩
        have HD3 := Lib.hid ((HD2.out.alloc (.cells #[.string q2.1, .int .i64 q2.2] 94)).trans0 hm13)
        clear hm13 HD2
        go_wp2_with fail
        (with_reducible refine (A4.out _).mono ?_)
        rintro e w14 ⟨rfl, hm14⟩
        have HD4 := Lib.hid ((HD3.out.alloc (.cells #[.string q3.1, .int .i64 q3.2] 94)).trans0 hm14)
        clear hm14 HD3
        go_wp2_with fail
        (with_reducible refine (A5.out _).mono ?_)
        rintro e w15 ⟨rfl, hm15⟩
        have HD5 := Lib.hid ((HD4.out.alloc (.cells #[.string q4.1, .int .i64 q4.2] 94)).trans0 hm15)
        clear hm15 HD4
        have HD6 := Lib.hid (HD5.out.alloc (.cells #[.string q5.1, .int .i64 q5.2] 94))
        have HT15 := Lib.hid (HT.out.mod HD5.out (by simp))
        obtain ⟨u0, u1, u2, u3⟩ := Blk2 HT15.out
        have hz15 := HD5.out.size
        have hk15 : w4.heap.size < w15.heap.size := HT15.out.lt
        clear t0 t1 t2 t3 A1 A2 A3 A4 A5
        have HR15 := Lib.hid (HR.out.mod HD5.out (by simp))
        have HZ15 := Lib.hid (HZ.out.mod HD5.out (by simp))
        have HM15 := Lib.hid (HM.out.trans0 HD5.out)
        have hkz : w.heap.size + 1 < w15.heap.size := by omega
        have hkr : w.heap.size < w15.heap.size := by omega
        have hkx : w4.heap.size + 1 < w15.heap.size := by omega
        have HMW := Lib.hid (HM6.out.trans HM15.out (R := []) (by simp; omega))
        by_cases hk : k < 1 ∨ 15 < k
        · have HRn : Hid (rD s = none) := Lib.hid (by
            have h1 : runR q = none := by rw [HRUN.out, if_pos hk]
            rw [HRD2.out, runsR_bad HRR.out h1 (by omega)])
          obtain ⟨z0, z1, z2, z3⟩ := Blk4c HZ15.out
          obtain ⟨r0, r1, r2, r3⟩ := Blk4c HR15.out
          have f0 := HR15.out.free 0
          have f1 := HR15.out.free 1
          have f2 := HR15.out.free 2
          have f3 := HR15.out.free 3
          clear HRUN HRD2 HRR
          rcases (by omega : (k : Int) < 1 ∨ (1 ≤ (k : Int) ∧ 15 < (k : Int))) with hk1 | ⟨hk0, hk1⟩
          all_goals
            clear hk
            go_wp2_with fail
            refine bodyPost_ret (v := .tuple #[trkV zeroT (.slice none 0 0), .int .i64 3]) (by simp [results, Try.results18, go_sem, r0, r1, r2, r3, zeroT, hgr, hk15, hkz, hkr]) rfl (read_bad RQ.out HRn.out ?_)
            exact (mod_set4 ((HMW.out.setCell (p := ⟨w4.heap.size, 0, none⟩) (.inr (by show w.heap.size ≤ w4.heap.size; omega)) _).setCell (p := ⟨w4.heap.size, 1, none⟩) (.inr (by show w.heap.size ≤ w4.heap.size; omega)) _) (Nat.le_refl _) _ _ _ _).alloc _
        · obtain ⟨hk1, hk2⟩ : 1 ≤ k ∧ k ≤ 15 := by omega
          have hk1' : 1 ≤ (k : Int) := by omega
          have hk2' : (k : Int) ≤ 15 := by omega
          have hkw := IntWalk.i64_in (k : Int) (by omega)
          have HRUN2 : Hid (runR q = match goR b q5 (k - 1) with
            | none => none
            | some (ps, q', _) => some (⟨b, rst, rs, seen, ps⟩, q')) := Lib.hid (by rw [HRUN.out, if_neg hk])
          obtain ⟨j0, hj, hjz0, hjz1, hjz2⟩ := info_parts info_int
          clear hk HRUN
          have HX15 := Lib.hid (HX.out.mod HD5.out (by simp))
          have HI15 := Lib.hid (fun x hx => (HINT.out x hx).mod HD5.out (by simp))
          have HO15 := Lib.hid (own_mod HOWN.out HD5.out (by simp))
          go_wp2_with (first | ((with_reducible refine (B1.out _).mono ?_); rintro e w' ⟨rfl, rfl⟩) | ((with_reducible refine (B2.out _).mono ?_); rintro e w' ⟨rfl, rfl⟩) | ((with_reducible refine (B3.out _).mono ?_); rintro e w' ⟨rfl, rfl⟩))
          have hms1 : Mod w15 ((w15.setCell ⟨w4.heap.size, 0, none⟩ (.string q5.1)).setCell ⟨w4.heap.size, 1, none⟩ (.int .i64 q5.2)) [w4.heap.size] := ((Mod.refl _ _).setCell (by simp) _).setCell (by simp) _
          have hma := ((hms1.alloc (.cells #[.string q5.1, .int .i64 q5.2] 94)).alloc (.cells #[.int .i64 b, .int .i64 rst, .int .i64 rs, .int .u64 seen, .slice none 0 0] 86)).alloc (.cells #[.int .i64 b] 3)
          have HMI := Lib.hid hma
          have HTI := Lib.hid (((((HT15.out.set 0 (.string q5.1)).set 1 (.int .i64 q5.2)).alloc (.cells #[.string q5.1, .int .i64 q5.2] 94)).alloc (.cells #[.int .i64 b, .int .i64 rst, .int .i64 rs, .int .u64 seen, .slice none 0 0] 86)).alloc (.cells #[.int .i64 b] 3))
          have HXI := Lib.hid (HX15.out.mod hma (by simp))
          have HRI := Lib.hid (HR15.out.mod hma (by simp; omega))
          have HZI := Lib.hid (HZ15.out.mod hma (by simp; omega))
          have HII := Lib.hid (fun x hx => (HI15.out x hx).mod hma (by simp; omega))
          have HOI := Lib.hid (own_mod HO15.out hma (fun k' hk' => by have := HG.out k' hk'; simp; omega))
          have hbi := (Blk.new (((w15.setCell ⟨w4.heap.size, 0, none⟩ (.string q5.1)).setCell ⟨w4.heap.size, 1, none⟩ (.int .i64 q5.2)).alloc (.cells #[.string q5.1, .int .i64 q5.2] 94)) #[.int .i64 b, .int .i64 rst, .int .i64 rs, .int .u64 seen, .slice none 0 0] 86).alloc (.cells #[.int .i64 b] 3)
          have hci := Blk.new ((((w15.setCell ⟨w4.heap.size, 0, none⟩ (.string q5.1)).setCell ⟨w4.heap.size, 1, none⟩ (.int .i64 q5.2)).alloc (.cells #[.string q5.1, .int .i64 q5.2] 94)).alloc (.cells #[.int .i64 b, .int .i64 rst, .int .i64 rs, .int .u64 seen, .slice none 0 0] 86)) #[.int .i64 b] 3
          have hsz2 : (((w15.setCell ⟨w4.heap.size, 0, none⟩ (.string q5.1)).setCell ⟨w4.heap.size, 1, none⟩ (.int .i64 q5.2)).alloc (.cells #[.string q5.1, .int .i64 q5.2] 94)).heap.size = w15.heap.size + 1 := by simp
          rw [World.size_alloc, hsz2] at hci
          rw [hsz2] at hbi
          have HBI := Lib.hid hbi
          have HCI := Lib.hid hci
          clear hms1 hma hbi hci hsz2 HMW HX15 HT15 HR15 HZ15 HD6 u0 u1 u2 u3
          have hVI : w15.heap.size + 2 < (((((w15.setCell ⟨w4.heap.size, 0, none⟩ (.string q5.1)).setCell ⟨w4.heap.size, 1, none⟩ (.int .i64 q5.2)).alloc (.cells #[.string q5.1, .int .i64 q5.2] 94)).alloc (.cells #[.int .i64 b, .int .i64 rst, .int .i64 rs, .int .u64 seen, .slice none 0 0] 86)).alloc (.cells #[.int .i64 b] 3)).heap.size := HCI.out.lt
          have hVJ : (((((w15.setCell ⟨w4.heap.size, 0, none⟩ (.string q5.1)).setCell ⟨w4.heap.size, 1, none⟩ (.int .i64 q5.2)).alloc (.cells #[.string q5.1, .int .i64 q5.2] 94)).alloc (.cells #[.int .i64 b, .int .i64 rst, .int .i64 rs, .int .u64 seen, .slice none 0 0] 86)).alloc (.cells #[.int .i64 b] 3)).heap.size ≤ w15.heap.size + 3 := by simp
          generalize World.alloc (World.alloc (World.alloc _ _) _) _ = VI at HMI HTI HXI HRI HZI HII HOI HBI HCI hVI hVJ ⊢
          go_loopw [26, 27, 28] (fun vk vl vj wr => ∃ (j : Nat) (lv : Value) (ps : List Int) (q' : St) (kk : Int), 1 ≤ j ∧ j ≤ k ∧ vk = .int .i64 kk ∧ vl = lv ∧ vj = .int .i64 (j : Int) ∧ Mod VI wr [w4.heap.size, w15.heap.size + 2] ∧ goR b q5 (j - 1) = some (ps, q', kk) ∧ q'.1.size ≤ s.size ∧ Blk wr w4.heap.size #[.string q'.1, .int .i64 q'.2] 94 ∧ wr.ownsRow (w15.heap.size + 2) 3 1 lv j (ps.map (Value.int .i64))) (fun _ _ vj _ => 20 - (intOf vj).toNat)
          case atStart => exact ⟨1, _, [b], q5, b, Nat.le_refl _, hk1, rfl, rfl, rfl, Mod.refl _ _, rfl, hs5, HTI.out, rfl, .inr ⟨w15.heap.size + 2, 1, #[.int .i64 b], rfl, Nat.le_refl _, HCI.out, Nat.le_refl _, by unfold maxLen; omega, rfl, rfl⟩⟩
          case round =>
            obtain ⟨j, lv, ps, q', kk, hj1, hjk, rfl, rfl, rfl, hm2, hgo, hqs', ht2, hown2⟩ := hrel
            have HM2 := Lib.hid hm2
            have HGO := Lib.hid hgo
            have HT2 := Lib.hid ht2
            have HOW2 := Lib.hid hown2
            have HG2 := Lib.hid (own_ge hown2)
            have hkb := goR_bd (by omega) hgo
            have hzv := hm2.size
            have hq15 : w15.heap.size + 1 < wr.heap.size := by omega
            have HR2 := Lib.hid (HRI.out.mod hm2 (by simp; omega))
            have HZ2 := Lib.hid (HZI.out.mod hm2 (by simp; omega))
            have HX2 := Lib.hid (HXI.out.mod hm2 (by simp; omega))
            have HB2 := Lib.hid (HBI.out.mod hm2 (by simp; omega))
            have HMt := Lib.hid ((((HM6.out.trans HM.out (R := []) (by simp; omega)).trans0 HD5.out).trans HMI.out (R := []) (by simp; omega)).trans hm2 (R := []) (by simp; omega))
            by_cases hjl : j < k
            · have hjl' : (j : Int) < k := by omega
              have AN := Lib.hid (fun w => NC.out q' w hqs')
              have hs7 := Nat.le_trans (nx_size q') hqs'
              have hmo := nv_lt q'
              have HST := Lib.hid (goR_step hgo)
              obtain ⟨t0, t1, t2, t3⟩ := Blk2 ht2
              have hk11 : w4.heap.size < wr.heap.size := ht2.lt
              clear hm2 hgo ht2 hown2
              generalize nv q' = mo at *
              generalize nx q' = q'' at *
              go_wp2_with fail
              (with_reducible refine (AN.out _).mono ?_)
              rintro e w21 ⟨rfl, hm21⟩
              have HT21 := Lib.hid (HT2.out.mod hm21 (by simp))
              have HOW21 := Lib.hid (own_mod HOW2.out hm21 (by simp))
              have HZ21 := Lib.hid (HZ2.out.mod hm21 (by simp))
              have HR21 := Lib.hid (HR2.out.mod hm21 (by simp))
              have HM21 := Lib.hid (HM2.out.trans0 hm21)
              have HMt21 := Lib.hid (HMt.out.trans0 hm21)
              have hz21 := hm21.size
              obtain ⟨t0, t1, t2, t3⟩ := Blk2 HT21.out
              have h21 : w4.heap.size < w21.heap.size := HT21.out.lt
              have h22 : w.heap.size + 1 < w21.heap.size := by omega
              have h23 : w.heap.size < w21.heap.size := by omega
              clear hm21 AN
              by_cases hmo2 : 549755813888 < mo
              · have hmo2' : 549755813888 < (mo : Int) := by omega
                have HRn : Hid (rD s = none) := Lib.hid (by
                  have h0 : goR b q5 (j - 1 + 1) = none := by rw [HST.out, if_pos hmo2]
                  have h1 := goR_none b q5 (k - 1 - j) (j - 1 + 1) h0
                  rw [show j - 1 + 1 + (k - 1 - j) = k - 1 by omega] at h1
                  have h2 : runR q = none := by rw [HRUN2.out, h1]
                  rw [HRD2.out, runsR_bad HRR.out h2 (by omega)])
                obtain ⟨z0, z1, z2, z3⟩ := Blk4c HZ21.out
                obtain ⟨r0, r1, r2, r3⟩ := Blk4c HR21.out
                have f0 := HR21.out.free 0
                have f1 := HR21.out.free 1
                have f2 := HR21.out.free 2
                have f3 := HR21.out.free 3
                clear hmo2 HST HRUN2 HRD2 HRR
                go_wp2_with fail
                (refine bodyPost_ret (v := .tuple #[trkV zeroT (.slice none 0 0), .int .i64 3]) (by simp [results, Try.results18, go_sem, r0, r1, r2, r3, zeroT, hgr, h21, h22, h23]) rfl (read_bad RQ.out HRn.out ?_))
                exact (mod_set4 ((HMt21.out.setCell (p := ⟨w4.heap.size, 0, none⟩) (.inr (by show w.heap.size ≤ w4.heap.size; omega)) _).setCell (p := ⟨w4.heap.size, 1, none⟩) (.inr (by show w.heap.size ≤ w4.heap.size; omega)) _) (Nat.le_refl _) _ _ _ _).alloc _
              · have hmo2' : (mo : Int) ≤ 549755813888 := by omega
                have HNX : Hid (goR b q5 (j - 1 + 1) = some (ps ++ [kk + mo + 1], q'', kk + mo + 1)) := Lib.hid (by rw [HST.out, if_neg hmo2])
                have hwm := IntWalk.i64_in (mo : Int) (by omega)
                have hmsT : Mod w21 ((w21.setCell ⟨w4.heap.size, 0, none⟩ (.string q''.1)).setCell ⟨w4.heap.size, 1, none⟩ (.int .i64 q''.2)) [w4.heap.size] := ((Mod.refl _ _).setCell (by simp) _).setCell (by simp) _
                have hmT := hmsT.alloc (.cells #[.string q''.1, .int .i64 q''.2] 94)
                have HMT := Lib.hid hmT
                have hown3 := (own_mod HOW21.out hmT (fun k' hk' => by have := HG2.out k' hk'; simp; omega))
                have hgs : (((w21.setCell ⟨w4.heap.size, 0, none⟩ (.string q''.1)).setCell ⟨w4.heap.size, 1, none⟩ (.int .i64 q''.2)).alloc (.cells #[.string q''.1, .int .i64 q''.2] 94)).heap.size = w21.heap.size + 1 := by simp
                have HGS := Lib.hid hgs
                have HOW3 := Lib.hid hown3
                clear hmo2 hmsT hmT hgs hown3
                go_wp2_with (at_builtin; refine hold ?_)
                refine Lib.hid ?_
                refine wpList_append_own _ rfl _ _ 43 rfl (w15.heap.size + 2) 3 j0 (.int .i64 0) 1 8 Try.underlying43 hj hjz0 hjz1 hjz2 rfl (by decide) _ j _ rfl (HOW3.out.alloc _) ⟨w21.heap.size + 1, 0, none⟩ 1 1 [.int .i64 (kk + mo + 1)] rfl rfl (by rw [← HGS.out]; exact cell_one_new _ _ _) (by simp [Value.oneCell']) (by unfold maxLen; omega) (by omega) (by simp; omega) ?_
                intro v' w22 hown4 hgrow hnil
                clear hnil
                have HO4 := Lib.hid hown4
                have HMG := Lib.hid ((((HM21.out.trans HMT.out (R' := [w4.heap.size]) (by simp)).alloc (.cells #[.int .i64 (kk + mo + 1)] 3)).grown hgrow (fun k' hk' => by have := HG2.out k' hk'; simp; omega)))
                have HTG := Lib.hid (Rw.blk_grown ((((HT21.out.set 0 (.string q''.1)).set 1 (.int .i64 q''.2)).alloc (.cells #[.string q''.1, .int .i64 q''.2] 94)).alloc (.cells #[.int .i64 (kk + mo + 1)] 3)) hgrow (fun h => by have := HG2.out _ h.symm; omega))
                clear hown4 hgrow
                go_wp2_with fail
                go_roundw
                case rel =>
                  refine ⟨j + 1, v', ps ++ [kk + mo + 1], q'', kk + mo + 1, by omega, by omega, rfl, rfl, by go_num, HMG.out, ?_, hs7, HTG.out, ?_⟩
                  · rw [show j + 1 - 1 = j - 1 + 1 by omega]; exact HNX.out
                  · rw [List.map_append]; exact HO4.out
                case measure => simp [intOf]; omega
            · have hge : (k : Int) ≤ j := by omega
              have hjk2 : j = k := by omega
              have HRR2 : Hid (runsR p4 (i + 1) = some (xs.map (·.1) ++ [⟨b, rst, rs, seen, ps⟩], q')) := Lib.hid (by
                have h1 : runR q = some (⟨b, rst, rs, seen, ps⟩, q') := by rw [HRUN2.out, ← hjk2, hgo]
                rw [runsR_step HRR.out, h1])
              obtain ⟨la, lc, rfl⟩ := Rw.own_slice hown2
              have HM15r := Lib.hid (HMI.out.trans hm2 (R := [w4.heap.size]) (by simp))
              have HIr := Lib.hid (fun x hx => (HI15.out x hx).mod HM15r.out (by simp; omega))
              have HOr := Lib.hid (own_mod HO15.out HM15r.out (fun k' hk' => by have := HG.out k' hk'; simp; omega))
              have HLT := Lib.hid (Rw.own_lt HO15.out)
              have HNr := Lib.hid ((ints_of_own hown2).low (N' := W.heap.size) (by have := HM15.out.size; omega))
              have hbs := HB2.out.set 4 (.slice la j lc)
              have hms : Mod wr (wr.setCell ⟨w15.heap.size + 1, 4, none⟩ (.slice la j lc)) [w15.heap.size + 1] := (Mod.refl _ _).setCell (by simp) _
              have hni : ∀ k' cs, Blk wr k' cs 3 → Blk (wr.setCell ⟨w15.heap.size + 1, 4, none⟩ (.slice la j lc)) k' cs 3 := fun k' cs h => Blk.mod h hms (by rw [List.mem_singleton]; rintro rfl; have := blk_ne h HB2.out; exact absurd this (by decide))
              have HIs := Lib.hid (fun x hx => (HIr.out x hx).keep hni)
              have HNs := Lib.hid (HNr.out.keep hni)
              have HOs := Lib.hid (own_mod HOr.out hms (fun k' hk' => by have := HLT.out k' hk'; simp; omega))
              have HTs := Lib.hid (HT2.out.mod hms (by simp; omega))
              have HXs := Lib.hid (HX2.out.mod hms (by simp; omega))
              have HMs := Lib.hid ((((HM15.out.trans HM15r.out (R := [w4.heap.size, w4.heap.size + 1]) (by simp))).trans hms (R := [w4.heap.size, w4.heap.size + 1]) (by have := HM15.out.size; simp; omega)))
              have HMSS := Lib.hid hms
              obtain ⟨y0, y1, y2, y3, y4⟩ := Blk5c HB2.out
              have yf := HB2.out.free 4
              have x3 := HX2.out.cell 3
              have xf3 := HX2.out.free 3
              simp at x3
              have hwn2 : w4.heap.size + 1 ≠ w15.heap.size + 1 := by omega
              have HLF := Lib.hid (flatR_snoc xs (⟨b, rst, rs, seen, ps⟩, .slice la j lc))
              have HSZ2 : Hid ((wr.setCell ⟨w15.heap.size + 1, 4, none⟩ (.slice la j lc)).heap.size = wr.heap.size) := Lib.hid (by simp [World.setCell])
              clear hm2 hgo ht2 hown2 hbs hms hni HGO HRUN2 HIr HNr hjk2
              go_wp2_with (at_builtin; refine hold ?_)
              refine Lib.hid ?_
              refine wpList_append_own _ rfl _ _ 32 rfl W.heap.size 86 i0 _ 5 56 Try.underlying32 hi hz0 hz1 hz2 rfl (by decide) v i _ rfl (HOs.out.alloc _) ⟨wr.heap.size, 0, none⟩ 1 1 [.int .i64 b, .int .i64 rst, .int .i64 rs, .int .u64 seen, .slice la j lc] rfl rfl (by rw [← HSZ2.out]; exact World.news_of_block (cs := #[.int .i64 b, .int .i64 rst, .int .i64 rs, .int .u64 seen, .slice la j lc]) (t := 86) (fr := (0, 0)) (heap_alloc_new _ _)) (by simp [Value.oneCell']) (by unfold maxLen; omega) (by omega) (by have := HM15.out.size; simp; omega) ?_
              intro v' w30 hown5 hgrow hnil
              clear hnil
              obtain ⟨ga, gc, rfl⟩ := Rw.own_slice hown5
              have HX30 := Lib.hid (Rw.blk_grown (HXs.out.alloc (.cells #[.int .i64 b, .int .i64 rst, .int .i64 rs, .int .u64 seen, .slice la j lc] 86)) hgrow (fun h => by have := HG.out _ h.symm; omega))
              have HT30 := Lib.hid (Rw.blk_grown (HTs.out.alloc (.cells #[.int .i64 b, .int .i64 rst, .int .i64 rs, .int .u64 seen, .slice la j lc] 86)) hgrow (fun h => by have := HG.out _ h.symm; omega))
              have HM30 := Lib.hid ((HMs.out.alloc (.cells #[.int .i64 b, .int .i64 rst, .int .i64 rs, .int .u64 seen, .slice la j lc] 86)).grown hgrow (fun k' hk' => .inr (HG.out k' hk')))
              have hni2 : ∀ k' cs, Blk (wr.setCell ⟨w15.heap.size + 1, 4, none⟩ (.slice la j lc)) k' cs 3 → Blk w30 k' cs 3 := fun k' cs h => Rw.blk_grown (h.alloc (.cells #[.int .i64 b, .int .i64 rst, .int .i64 rs, .int .u64 seen, .slice la j lc] 86)) hgrow (fun e => by
                obtain ⟨_, ⟨rfl, _⟩ | ⟨gb, cap, cur, rfl, _, hb, _⟩⟩ := HOs.out
                · cases e
                · have : k' = gb := by simpa [Value.ownBlock] using e
                  subst this
                  have := blk_ne h (show Blk _ k' cur 86 from hb); exact absurd this (by decide))
              have HI30 := Lib.hid (fun x hx => (HIs.out x hx).keep hni2)
              have HN30 := Lib.hid (HNs.out.keep hni2)
              have HO30 := Lib.hid hown5
              have x31 := HX30.out.cell 3
              have xf31 := HX30.out.free 3
              simp at x31
              clear hown5 hgrow hni2
              go_wp2_with fail
              go_roundw
              case rel =>
                have hms : Mod w30 (w30.setCell ⟨w4.heap.size + 1, 3, none⟩ (.slice ga (i + 1) gc)) [w4.heap.size + 1] := (Mod.refl _ _).setCell (by simp) _
                have hni3 : ∀ k' cs, Blk w30 k' cs 3 → Blk (w30.setCell ⟨w4.heap.size + 1, 3, none⟩ (.slice ga (i + 1) gc)) k' cs 3 := fun k' cs h => Blk.mod h hms (by rw [List.mem_singleton]; rintro rfl; have := blk_ne h HX30.out; exact absurd this (by decide))
                refine ⟨i + 1, _, xs ++ [(⟨b, rst, rs, seen, ps⟩, .slice la j lc)], q', by omega, by go_num, ?_, ?_, hqs', HT30.out.mod hms (by simp), HX30.out.set 3 _, ?_, ?_⟩
                · exact HM30.out.trans hms (by simp)
                · rw [HRR2.out, List.map_append]; rfl
                · intro x hx
                  rcases List.mem_append.1 hx with hx | hx
                  · exact (HI30.out x hx).keep hni3
                  · rw [List.mem_singleton] at hx; subst hx; exact HN30.out.keep hni3
                · rw [HLF.out]
                  exact own_mod HO30.out hms (fun k' hk' => by have := own_ge HO30.out k' hk'; simp; omega)
              case measure => simp [intOf]; omega
      · have hge : (n : Int) ≤ i := by omega
        have hin : i = n := by omega
        obtain ⟨ok1, ok2⟩ := runsR_ok _ _ _ hrr
        have hxl : xs.length = i := by rw [List.length_map] at ok2; exact ok2
        obtain ⟨va, vc, rfl⟩ := Rw.own_slice hown
        have HRNS : Hid (rD s = if endE q.1 q.2 = 0 ∧ trkB ⟨c, st, lo, xs.map (·.1)⟩ = true then some ⟨c, st, lo, xs.map (·.1)⟩ else none) := Lib.hid (by rw [HRD2.out, ← hin, hrr])
        have HRA := Lib.hid (runs_of_own (base := W.heap.size) (e := 86) (by rw [hxl]; exact hown) (fun x hx => (hints x hx).at))
        have HWR := Lib.hid (HM6.out.trans hm (R := []) (by simp; omega))
        have ED := Lib.hid (fun w' => rEnd_calls q.1 q.2 w')
        have HLE : Hid ((xs.map (·.1)).length = i ∧ i ≤ 64) := Lib.hid ⟨ok2, by have := H64.out; omega⟩
        have MC := Lib.hid (fun w' h => rmay_calls ⟨c, st, lo, xs.map (·.1)⟩ (.slice va i vc) ⟨hc, hst, hlo, fun r hr => (ok1 r hr).1⟩ (fun r hr => by have := (ok1 r hr).2; omega) (by have := HLE.out; show (xs.map (·.1)).length ≤ _; omega) w' h)
        have HFIN : Hid (∀ w'' R, Mod wr w'' R → (∀ r ∈ R, r < W.heap.size) → RunsAt w'' (.slice va i vc) (xs.map (·.1))) := Lib.hid (fun w'' R m hR =>
          runs_of_own (base := W.heap.size) (e := 86) (by rw [hxl]; exact own_mod hown m (fun k hk hm => by have := HG.out k hk; have := hR k hm; omega)) (fun x hx => ((hints x hx).mod m hR).at))
        have hbx := Blk4c hx
        obtain ⟨x0, x1, x2, x3⟩ := hbx
        obtain ⟨t0, t1, t2, t3⟩ := Blk2 ht
        have hgw : w.heap.size < W.heap.size := by omega
        clear hm hrr hx hints hown hin ok1 ok2 hxl ht HRD2 H64
        go_wp2_with fail
        (with_reducible refine (ED.out _).mono ?_)
        rintro e w31 ⟨rfl, hm31⟩
        have HR31 := Lib.hid (HR.out.mod hm31 (by simp))
        have HZ31 := Lib.hid (HZ.out.mod hm31 (by simp))
        have HX31 := Lib.hid (HX.out.mod hm31 (by simp))
        have HM31 := Lib.hid hm31
        have HW31 := Lib.hid (HWR.out.trans0 hm31)
        clear hm31 x0 x1 x2 x3 t0 t1 t2 t3
        by_cases hE : endE q.1 q.2 = 0
        case neg =>
          have hEb : (endE q.1 q.2 != 0) = true := by rw [bne_iff_ne]; exact hE
          have HRn : Hid (rD s = none) := Lib.hid (by rw [HRNS.out, if_neg (fun h => hE h.1)])
          obtain ⟨z0, z1, z2, z3⟩ := Blk4c HZ31.out
          obtain ⟨r0, r1, r2, r3⟩ := Blk4c HR31.out
          have f0 := HR31.out.free 0
          have f1 := HR31.out.free 1
          have f2 := HR31.out.free 2
          have f3 := HR31.out.free 3
          clear hE HRNS
          go_wp2_with fail
          (refine bodyPost_ret (v := .tuple #[trkV zeroT (.slice none 0 0), .int .i64 3]) (by simp [results, Try.results18, go_sem, r0, r1, r2, r3, zeroT, hgr]) rfl (read_bad RQ.out HRn.out ?_))
          exact mod_set4 HW31.out (Nat.le_refl _) _ _ _ _
        have HE := Lib.hid hE
        rw [hE]
        clear hE
        obtain ⟨x0, x1, x2, x3⟩ := Blk4c HX31.out
        cases hB : trkB ⟨c, st, lo, xs.map (·.1)⟩
        · rw [hB] at MC
          have HRn : Hid (rD s = none) := Lib.hid (by rw [HRNS.out, if_neg (fun h => by rw [hB] at h; cases h.2)])
          clear hB HRNS
          go_wp2_with fail
          (with_reducible refine (MC.out _ ?_).mono ?_)
          · exact HRA.out.mod HM31.out
          rintro e w32 ⟨rfl, hm32⟩
          have HR32 := Lib.hid (HR31.out.mod hm32 (by simp))
          have HW32 := Lib.hid (HW31.out.trans0 hm32)
          obtain ⟨z0, z1, z2, z3⟩ := Blk4c (HZ31.out.mod hm32 (by simp))
          obtain ⟨r0, r1, r2, r3⟩ := Blk4c HR32.out
          have f0 := HR32.out.free 0
          have f1 := HR32.out.free 1
          have f2 := HR32.out.free 2
          have f3 := HR32.out.free 3
          clear hm32 x0 x1 x2 x3
          go_wp2_with fail
          (refine bodyPost_ret (v := .tuple #[trkV zeroT (.slice none 0 0), .int .i64 3]) (by simp [results, Try.results18, go_sem, r0, r1, r2, r3, zeroT, hgr]) rfl (read_bad RQ.out HRn.out ?_))
          exact mod_set4 HW32.out (Nat.le_refl _) _ _ _ _
        · rw [hB] at MC
          have HRg : Hid (rD s = some ⟨c, st, lo, xs.map (·.1)⟩) := Lib.hid (by rw [HRNS.out, if_pos ⟨HE.out, hB⟩])
          clear hB HRNS
          go_wp2_with fail
          (with_reducible refine (MC.out _ ?_).mono ?_)
          · exact HRA.out.mod HM31.out
          rintro e w32 ⟨rfl, hm32⟩
          have HR32 := Lib.hid (HR31.out.mod hm32 (by simp))
          have HW32 := Lib.hid (HW31.out.trans0 hm32)
          have HM32 := Lib.hid (HM31.out.trans0 hm32)
          obtain ⟨x0, x1, x2, x3⟩ := Blk4c (HX31.out.mod hm32 (by simp))
          obtain ⟨r0, r1, r2, r3⟩ := Blk4c HR32.out
          have f0 := HR32.out.free 0
          have f1 := HR32.out.free 1
          have f2 := HR32.out.free 2
          have f3 := HR32.out.free 3
          clear hm32
          go_wp2_with fail
          have hms : Mod w32 ((((w32.setCell ⟨w.heap.size, 0, none⟩ (.int .i64 c)).setCell ⟨w.heap.size, 1, none⟩ (.int .i64 st)).setCell ⟨w.heap.size, 2, none⟩ (.int .i64 lo)).setCell ⟨w.heap.size, 3, none⟩ (.slice va i vc)) [w.heap.size] :=
            ((((Mod.refl w32 [w.heap.size]).setCell (by simp) _).setCell (by simp) _).setCell (by simp) _).setCell (by simp) _
          (refine bodyPost_ret (v := .tuple #[trkV ⟨c, st, lo, xs.map (·.1)⟩ (.slice va i vc), .int .i64 0]) (by simp [results, Try.results18, go_sem, r0, r1, r2, r3, hgr]) rfl (read_good RQ.out HRg.out ?_ ?_))
          · exact mod_set4 HW32.out (Nat.le_refl _) _ _ _ _
          · exact HFIN.out _ [w.heap.size] ((HM32.out.weak0 (R := [w.heap.size])).trans hms (by simp)) (by simp; omega)
end Go.Proofs.Ytcbafomhifdgpaa.Ke
