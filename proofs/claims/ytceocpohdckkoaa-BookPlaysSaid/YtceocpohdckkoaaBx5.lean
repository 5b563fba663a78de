/- Books: a match more. -/
import Derived.Test.YtceocpohdckkoaaBx4
import Derived.Deep.Onto
namespace Go.Proofs.Ytceocpohdckkoaa.Bx
open Go.RowKit Mem
set_option linter.unusedSimpArgs false
set_option linter.unusedVariables false
set_option maxRecDepth 100000

/-- A row of matches may have turned, or come. -/
def Grew (N : Nat) (v : Value) (A B : World) : Prop := ∃ row, A.grownBy B row ∧ ∀ k, row = some k → N ≤ k ∧ v.ownBlock = some k ∧ ∃ cs, Blk A k cs tM
theorem Grew.keep {N : Nat} {v : Value} {A B : World} (h : Grew N v A B) {k : Nat} {o : Obj} (hk : A.heap[k]? = some o) (ht : ∀ cs z, o ≠ .cells cs tM z) : B.heap[k]? = some o := by
  obtain ⟨row, hg, hr⟩ := h
  rw [hg.block k (heap_lt hk) (fun e => ?_)]
  · exact hk
  · obtain ⟨_, _, cs, hb⟩ := hr k e.symm
    unfold Blk at hb
    rw [hk] at hb
    injection hb with hb
    exact ht _ _ hb
theorem Grew.far {N : Nat} {v : Value} {A B : World} (h : Grew N v A B) {k : Nat} {cs : Array Value} {t : TypeId} (hk : Blk A k cs t) (hv : v.ownBlock ≠ some k) : Blk B k cs t := by
  obtain ⟨row, hg, hr⟩ := h
  exact Rw.blk_grown hk hg (fun e => hv (hr k e.symm).2.1)
theorem Grew.bw {N : Nat} {v : Value} {A B : World} (h : Grew N v A B) (hN : N ≤ A.heap.size) (g : Nat) : Bw N g A B := by
  refine ⟨?_, fun k o hk _ ht => h.keep hk ht⟩
  obtain ⟨row, hg, hr⟩ := h
  exact (Below.refl N A).grown hg hN (fun k e => (hr k e).1)
theorem wp_app {o : Oper} {a : Act} {w : World} {K : Act → World → Prop} {Q : Exit → Act → World → Prop} (s x : Operand)
    (ho : o.op = .call { callee := .builtin .append, args := #[s, x], argTypes := #[34, 34] }) {N : Nat} {v : Value} {us : List Value} (hs : a.eval s = v) (hl : ListAt w N v us)
    (ad : Addr) (c : Nat) (u : Value) (hx : a.eval x = .slice (some ad) 1 c) (hu : w.cell? ad = some u) (h1 : u.oneCell' = true) (hlen : us.length ≤ 1000) (hN : N ≤ w.heap.size)
    (h : ∀ v' w', w'.ownsRow N tM 1 v' (us.length + 1) (us ++ [u]) → Grew N v w w' → K (a.put o.dst v') w') : o.wp Try.prog a w K Q := by
  obtain ⟨i0, hi0, hz0, hz1, hz2⟩ := info_parts info_match
  have hnews : ∀ j y, [u][j]? = some y → w.cell? (ad.add j) = some y := by
    intro j y hj
    obtain ⟨hj0, he⟩ := List.getElem?_eq_some_iff.1 hj
    obtain rfl : j = 0 := by simpa using hj0
    simp only [List.getElem_cons_zero] at he
    subst he
    simpa [Addr.add] using hu
  rcases hl with hl | ⟨p, rfl, _, hp⟩
  · refine wp_append_own w s x 34 ho N 32 i0 _ 1 24 Try.underlying34 hi0 hz0 hz1 hz2 rfl (by decide) v us.length us hs hl ad 1 c [u] hx rfl hnews (by simpa using h1) (by unfold maxLen; omega) (by omega) hN (fun v' w' q1 q2 _ => h v' w' q1 ⟨_, q2, fun k hk => ⟨own_ge hl k hk, hk, own_blk hl k hk⟩⟩)
  · have holds : ∀ j y, us[j]? = some y → w.cell? (p.add j) = some y := by
      intro j y hj
      obtain ⟨hj0, he⟩ := List.getElem?_eq_some_iff.1 hj
      obtain ⟨b, off, cs, rfl, q2, q3, q4⟩ := hp (fun e => by rw [e] at hj0; simp at hj0)
      rw [Addr.add_lit, q3.cell, q4 j hj0, he]
    obtain ⟨v', w', hr, r1, r2⟩ := run_append_arg_grows (P := Try.prog) w 34 o.type 32 i0 _ 1 24 Try.underlying34 hi0 hz0 hz1 hz2 rfl (by decide) p us.length us.length us (by simp) holds ad 1 c [u] rfl hnews (by omega) (by unfold maxLen; omega) (by omega)
    unfold Oper.wp execOp
    simp only [ho, resolve, invoke, builtin, Sem.run_bind, Sem.run_pure, Result.andThen_ok, List.map_toArray, List.map_cons, List.map_nil, hs, hx, hr]
    exact h v' w' (World.ownsRow.mono r1 hN) ⟨_, r2, fun k hk => by cases hk⟩

def putS (base : Int) (rows : List (List Int)) (xs : List Int) : Int × Int × List (List Int) :=
  if mayB xs then (if 549755813888 ≤ base + rows.length then (2, base, rows) else if 64 < rows.length + 1 then (0, base + 1, (rows ++ [xs]).drop 1) else (0, base, rows ++ [xs])) else (1, base, rows)
/-- What Put answers, and what the book then is. -/
def PutP (w : World) (N : Nat) (X : Nat → Prop) (g : Nat) (r : Int × Int × List (List Int)) (e : Ending) (w' : World) : Prop :=
  e = .returned (.int .i64 r.1) ∧ BookAt w' N X g r.2.1 r.2.2 ∧ Bw N g w w'

theorem put_nil (m : Value) (w : World) : Calls Try.prog 16 #[.pointer none, .agg #[m]] w fun e w' => e = .returned (.int .i64 1) ∧ Mod w w' [] := by
  go_enter Try.func16, Try.ntmps16
  go_wp2
  all_goals (try go_ret)
  all_goals (first | exact ⟨rfl, (Mod.refl _ _).alloc _⟩ | skip)

set_option maxHeartbeats 2000000 in
theorem put_calls {w : World} {N : Nat} {X : Nat → Prop} {g : Nat} {base : Int} {rows : List (List Int)} (h : BookAt w N X g base rows) (u : Value) (xs : List Int) (hu : IntsR w u xs) (hxn : xs.length ≤ 140737488351232)
    (hb0 : 0 ≤ base) (hb1 : base ≤ 549755813888) (hl : rows.length ≤ 64) (hX : ∀ k, X k → k < w.heap.size) (hNw : N ≤ w.heap.size) :
    Calls Try.prog 16 #[.pointer (some ⟨g, 0, none⟩), .agg #[u]] w (PutP w N X g (putS base rows xs)) := by
  have HM0 := Lib.hid ((Mod.refl w []).alloc (.cells #[u] 32))
  have MC := Lib.hid (fun w' (k : Kept w w') => may_calls xs u w' (hu.kept k) hxn)
  have H := Lib.hid h
  obtain ⟨a0, cu, cl, hus⟩ : ∃ a n c, u = .slice a n c := by
    rcases hu with ⟨_, a, c, h⟩ | ⟨b, off, cap, h, _⟩ <;> exact ⟨_, _, _, h⟩
  have HU := Lib.hid hu
  subst hus
  have HBX := Lib.hid (Blk.new w #[.slice a0 cu cl] 32)
  clear h hu
  by_cases hm : mayB xs = true
  · have HNE : Hid (xs ≠ [] ∧ xs.length ≤ 16) := Lib.hid (by
      unfold mayB at hm
      simp only [Bool.and_eq_true, decide_eq_true_eq] at hm
      exact ⟨fun e => by rw [e] at hm; simp at hm, hm.1.1.1.2⟩)
    by_cases hend : 549755813888 ≤ base + rows.length
    · have hr := Lib.hid (show putS base rows xs = (2, base, rows) by unfold putS; rw [if_pos hm, if_pos hend])
      rw [hm] at MC
      go_enter Try.func16, Try.ntmps16
      go_wp2_with fail
      (with_reducible refine (MC.out _ (.mod HM0.out)).mono ?_)
      rintro e w1 ⟨rfl, hm1⟩
      have HM1 := Lib.hid (HM0.out.trans0 hm1)
      clear hm1
      have EC := Lib.hid (end_calls (H.out.mod HM1.out) (by omega) hb1 (by omega))
      go_wp2_with fail
      (with_reducible refine (EC.out).mono ?_)
      rintro e w2 ⟨rfl, hm2⟩
      have HM2 := Lib.hid (HM1.out.trans0 hm2)
      clear hm2 EC
      go_wp2_with fail
      go_ret
      rw [hr.out]
      exact ⟨rfl, H.out.mod HM2.out, .mod hNw HM2.out⟩
    · have hend' : base + rows.length < 549755813888 := by omega
      have hlr : (rows.length : Int) ≤ 64 := by omega
      have hr := Lib.hid (show putS base rows xs = if 64 < rows.length + 1 then (0, base + 1, (rows ++ [xs]).drop 1) else (0, base, rows ++ [xs]) by
        unfold putS; rw [if_pos hm, if_neg hend])
      rw [hm] at MC
      go_enter Try.func16, Try.ntmps16
      go_wp2_with fail
      (with_reducible refine (MC.out _ (.mod HM0.out)).mono ?_)
      rintro e w1 ⟨rfl, hm1⟩
      have HM1 := Lib.hid (HM0.out.trans0 hm1)
      have HBX1 := Lib.hid (HBX.out.mod hm1 (by simp))
      clear hm1
      have EC := Lib.hid (end_calls (H.out.mod HM1.out) (by omega) hb1 (by omega))
      go_wp2_with fail
      (with_reducible refine (EC.out).mono ?_)
      rintro e w2 ⟨rfl, hm2⟩
      have HM2 := Lib.hid (HM1.out.trans0 hm2)
      have HBX2 := Lib.hid (HBX1.out.mod hm2 (by simp))
      clear hm2 EC MC
      have HIU : Hid (IntsC w (.slice a0 cu cl) xs) := Lib.hid (HU.out.resolve_left (fun h => HNE.out.1 h.1))
      obtain ⟨v, us, hb, hla, hrows⟩ := H.out.2
      have HLT := Lib.hid hla.lt
      replace hb := hb.mod HM2.out (by simp)
      replace hla := hla.kept (.mod HM2.out)
      replace hrows := all2_mono (fun _ _ h => h.kept (.mod HM2.out)) hrows
      have hN := Lib.hid H.out.1
      have HB := Lib.hid hb
      have HLA := Lib.hid hla
      have HROWS := Lib.hid hrows
      have HLN := Lib.hid (all2_len hrows)
      have CC := Lib.hid (fun w' (k : Kept w w') => clone_calls xs (.slice a0 cu cl) w' (HIU.out.kept k) (by have := HNE.out.2; omega) HNE.out.1)
      have c1 : w2.cell? ⟨g, 1, none⟩ = some v := hb.cell 1
      have c2 : w2.cell? ⟨w.heap.size, 0, none⟩ = some (.slice a0 cu cl) := HBX2.out.cell 0
      clear hb hla hrows
      go_wp2_with fail
      refine He.wp_region_e 13 (fun w' => w'.cell? ⟨g, 1, none⟩ = some v ∧ w'.cell? ⟨w.heap.size, 0, none⟩ = some (.slice a0 cu cl)) (by kernel_rfl) ⟨c1, c2⟩ (fun S0 => ?_)
      refine He.wpE_take (i := 0) (v := ?_) rfl (by kernel_rfl) (by kernel_rfl) (by kernel_rfl) (by kernel_rfl) (by kernel_rfl) (fun _ _ _ h => h) (by rfl) ?_ (by assumption) ?_
      rotate_left
      · (intro w' hSw; (try dsimp only at hSw); go_simp; first | done | with_reducible rfl)
      try simp only [List.getElem_toArray, List.getElem_cons_succ, List.getElem_cons_zero, Act.put, List.setIfInBounds_toArray, List.set_cons_zero, List.set_cons_succ]
      refine He.wpE_take (i := 1) (v := ?_) rfl (by kernel_rfl) (by kernel_rfl) (by kernel_rfl) (by kernel_rfl) (by kernel_rfl) (fun _ _ _ h => h) (by rfl) ?_ (by assumption) ?_
      rotate_left
      · (intro w' hSw; (try dsimp only at hSw); go_simp; first | done | with_reducible rfl)
      try simp only [List.getElem_toArray, List.getElem_cons_succ, List.getElem_cons_zero, Act.put, List.setIfInBounds_toArray, List.set_cons_zero, List.set_cons_succ]
      refine He.wpE_take (i := 2) (v := ?_) rfl (by kernel_rfl) (by kernel_rfl) (by kernel_rfl) (by kernel_rfl) (by kernel_rfl) (fun _ _ _ h => h) (by rfl) ?_ (by assumption) ?_
      rotate_left
      · (intro w' hSw; (try dsimp only at hSw); go_simp; first | done | with_reducible rfl)
      try simp only [List.getElem_toArray, List.getElem_cons_succ, List.getElem_cons_zero, Act.put, List.setIfInBounds_toArray, List.set_cons_zero, List.set_cons_succ]
      refine He.wpE_take (i := 3) (v := ?_) rfl (by kernel_rfl) (by kernel_rfl) (by kernel_rfl) (by kernel_rfl) (by kernel_rfl) (fun _ _ _ h => h) (by rfl) ?_ (by assumption) ?_
      rotate_left
      · (intro w' hSw; (try dsimp only at hSw); go_simp; first | done | with_reducible rfl)
      try simp only [List.getElem_toArray, List.getElem_cons_succ, List.getElem_cons_zero, Act.put, List.setIfInBounds_toArray, List.set_cons_zero, List.set_cons_succ]
      refine He.wpE_take (i := 4) (v := ?_) rfl (by kernel_rfl) (by kernel_rfl) (by kernel_rfl) (by kernel_rfl) (by kernel_rfl) (fun _ _ _ h => h) (by rfl) ?_ (by assumption) ?_
      rotate_left
      · (intro w' hSw; (try dsimp only at hSw); go_simp; first | done | with_reducible rfl)
      try simp only [List.getElem_toArray, List.getElem_cons_succ, List.getElem_cons_zero, Act.put, List.setIfInBounds_toArray, List.set_cons_zero, List.set_cons_succ]
      refine He.wpE_take (i := 5) (v := ?_) rfl (by kernel_rfl) (by kernel_rfl) (by kernel_rfl) (by kernel_rfl) (by kernel_rfl) (fun _ _ _ h => h) (by rfl) ?_ (by assumption) ?_
      rotate_left
      · (intro w' hSw; (try dsimp only at hSw); go_simp; first | done | with_reducible rfl)
      try simp only [List.getElem_toArray, List.getElem_cons_succ, List.getElem_cons_zero, Act.put, List.setIfInBounds_toArray, List.set_cons_zero, List.set_cons_succ]
      refine He.wpE_take (i := 6) (v := ?_) rfl (by kernel_rfl) (by kernel_rfl) (by kernel_rfl) (by kernel_rfl) (by kernel_rfl) (fun _ _ _ h => h) (by rfl) ?_ (by assumption) ?_
      rotate_left
      · (intro w' hSw; (try dsimp only at hSw); go_simp; first | done | with_reducible rfl)
      try simp only [List.getElem_toArray, List.getElem_cons_succ, List.getElem_cons_zero, Act.put, List.setIfInBounds_toArray, List.set_cons_zero, List.set_cons_succ]
      have HBd := Lib.hid HB.out.drew
      have HBXd := Lib.hid HBX2.out.drew
      have HMd := Lib.hid ((Mod.refl w2 []).drew)
      have HMw := Lib.hid HM2.out.drew
      generalize w2.drew = wd at *
      refine He.wpE_one (i := 7) (by kernel_rfl) rfl (by rfl) (fun K hK => ?_)
      go_simp
      refine (CC.out _ (.mod HMw.out)).mono ?_
      rintro e w3 ⟨u3, rfl, hm3, hf3⟩
      have HF3 := Lib.hid hf3
      obtain ⟨b3, cap3, rfl⟩ : ∃ b cap, u3 = slV b xs.length cap := by obtain ⟨_, b, c, h, _⟩ := hf3; exact ⟨b, c, h⟩
      have HB3 := Lib.hid (HBd.out.mod hm3 (by simp))
      have HBX3 := Lib.hid (HBXd.out.mod hm3 (by simp))
      have HM3 := Lib.hid (HMw.out.trans0 hm3)
      have HK3 := Lib.hid ((Kept.mod HMd.out).trans (Kept.mod hm3))
      have hs3 := Lib.hid (Nat.le_trans HMw.out.size hm3.size)
      clear hm3 hf3 CC S0
      have S3 : w3.cell? ⟨g, 1, none⟩ = some v ∧ w3.cell? ⟨w.heap.size, 0, none⟩ = some (.slice a0 cu cl) := ⟨HB3.out.cell 1, HBX3.out.cell 0⟩
      refine hK.out _ _ (fun _ => S3) ?_
      clear hK K
      try simp only [Act.put, List.setIfInBounds_toArray, List.set_cons_zero, List.set_cons_succ]
      refine He.wpE_take (i := 8) (v := ?_) rfl (by kernel_rfl) (by kernel_rfl) (by kernel_rfl) (by kernel_rfl) (by kernel_rfl) (fun _ _ _ h => h) (by rfl) ?_ (by assumption) ?_
      rotate_left
      · (intro w' hSw; (try dsimp only at hSw); go_simp; first | done | with_reducible rfl)
      try simp only [List.getElem_toArray, List.getElem_cons_succ, List.getElem_cons_zero, Act.put, List.setIfInBounds_toArray, List.set_cons_zero, List.set_cons_succ]
      refine He.wpE_one (i := 9) (by kernel_rfl) rfl (by rfl) (fun K hK => ?_)
      go_simp
      have hm4 := (Mod.refl w3 []).alloc (.cells #[slV b3 xs.length cap3] 32)
      have HC4 := Lib.hid (Blk.new w3 #[slV b3 xs.length cap3] 32)
      have HB4 := Lib.hid (HB3.out.mod hm4 (by simp))
      have HBX4 := Lib.hid (HBX3.out.mod hm4 (by simp))
      have HM4 := Lib.hid (HM3.out.trans0 hm4)
      have HF4 := Lib.hid (HF3.out.kept (.mod hm4))
      have HK4 := Lib.hid (HK3.out.trans (Kept.mod hm4))
      have hs4 := Lib.hid (Nat.le_trans hs3.out hm4.size)
      clear hm4
      have S4 : (w3.alloc (.cells #[slV b3 xs.length cap3] 32)).cell? ⟨g, 1, none⟩ = some v ∧ (w3.alloc (.cells #[slV b3 xs.length cap3] 32)).cell? ⟨w.heap.size, 0, none⟩ = some (.slice a0 cu cl) := ⟨HB4.out.cell 1, HBX4.out.cell 0⟩
      refine hK.out _ _ (fun _ => S4) ?_
      clear hK K
      try simp only [Act.put, List.setIfInBounds_toArray, List.set_cons_zero, List.set_cons_succ]
      have hz3 := HC4.out.cell 0
      generalize w3.heap.size = n3 at *
      generalize w3.alloc _ = w4 at *
      refine He.wpE_one (i := 10) (by kernel_rfl) rfl (by rfl) (fun K hK => ?_)
      refine wp_app _ _ (by rfl) (N := N) (us := us) (v := v) (by rfl) (HLA.out.kept HK4.out) ⟨n3, 0, none⟩ 1 (slV b3 xs.length cap3) (by rfl) hz3 (by rfl) (by rw [HLN.out]; omega) (Nat.le_trans hNw hs4.out) ?_
      intro v' w5 hown hgr
      obtain ⟨a5, c5, rfl⟩ := Rw.own_slice hown
      have HB5 : Hid (Blk w5 g #[iv base, v] tK) := Lib.hid (hgr.keep HB4.out (fun cs z e => by injection e with _ e; exact absurd e (by decide)))
      have HBX5 : w5.cell? ⟨g, 1, none⟩ = some v := HB5.out.cell 1
      have HO5 := Lib.hid hown
      have HBW5 := Lib.hid ((Bw.mod (g := g) hNw HM4.out).trans (hgr.bw (Nat.le_trans hNw hs4.out) g))
      have HR5 : Hid (All2 (RowAt w5 X) (us ++ [slV b3 xs.length cap3]) (rows ++ [xs])) := Lib.hid (all2_snoc (by
          have hf := (HF4.out.mono (E := w.heap.size) (by have := HMw.out.size; omega)).row hX
          exact (hgr.bw (Nat.le_trans hNw hs4.out) g).row hf ⟨_, HB4.out⟩)
        (all2_mono (fun u xs h => (hgr.bw (Nat.le_trans hNw hs4.out) g).row (h.kept HK4.out) ⟨_, HB4.out⟩) HROWS.out))
      have HX5 := hgr.far HBX4.out (fun e => by have := HLT.out _ e; omega)
      have S5 : w5.cell? ⟨g, 1, none⟩ = some v ∧ w5.cell? ⟨w.heap.size, 0, none⟩ = some (.slice a0 cu cl) := ⟨HBX5, HX5.cell 0⟩
      clear hgr hown S4 HX5 HBX5
      refine hK.out _ _ (fun _ => S5) ?_
      clear hK K
      try simp only [Act.put, List.setIfInBounds_toArray, List.set_cons_zero, List.set_cons_succ]
      refine He.wpE_take (i := 11) (v := ?_) rfl (by kernel_rfl) (by kernel_rfl) (by kernel_rfl) (by kernel_rfl) (by kernel_rfl) (fun _ _ _ h => h) (by rfl) ?_ (by assumption) ?_
      rotate_left
      · (intro w' hSw; (try dsimp only at hSw); go_simp; first | done | with_reducible rfl)
      try simp only [List.getElem_toArray, List.getElem_cons_succ, List.getElem_cons_zero, Act.put, List.setIfInBounds_toArray, List.set_cons_zero, List.set_cons_succ]
      refine He.wpE_take (i := 12) (v := ?_) rfl (by kernel_rfl) (by kernel_rfl) (by kernel_rfl) (by kernel_rfl) (by kernel_rfl) (fun _ _ _ h => h) (by rfl) ?_ (by assumption) ?_
      rotate_left
      · (intro w' hSw; (try dsimp only at hSw); go_simp; first | done | with_reducible rfl)
      try simp only [List.getElem_toArray, List.getElem_cons_succ, List.getElem_cons_zero, Act.put, List.setIfInBounds_toArray, List.set_cons_zero, List.set_cons_succ]
      have g1 := HB5.out.cell 1
      have f1 := HB5.out.free 1
      refine He.wpE_one (i := 13) (by kernel_rfl) rfl (by rfl) (fun K hK => ?_)
      go_simp
      refine hK.out _ _ (fun h => absurd rfl h) ?_
      clear hK K
      refine He.wpE_done (by kernel_rfl) ?_
      try simp only [Act.put, List.setIfInBounds_toArray, List.set_cons_zero, List.set_cons_succ]
      have HM6 := Lib.hid ((Mod.refl w5 [g]).setCell (p := ⟨g, 1, none⟩) (by simp) (.slice a5 (us.length + 1) c5))
      have HK6 := Lib.hid (BookAt.step (X := X) hN.out HB5.out HM6.out (HB5.out.set 1 (.slice a5 (us.length + 1) c5)) (us := us ++ [slV b3 xs.length cap3]) (.inl (by rw [List.length_append]; exact HO5.out)) HR5.out)
      have HBW6 := Lib.hid (HBW5.out.trans (Bw.own hN.out HB5.out.lt HM6.out))
      have hs6 := Lib.hid HBW6.out.below.size
      generalize w5.setCell _ _ = w6 at *
      clear S5 g1 f1 HB5 HO5 HBW5 HR5 HB4 HBX4 HF4 HC4 HK4 HB3 HBX3 HF3 HK3 HMd HBd HBXd HMw HIU HB HLA HROWS c1 c2 HBX HBX1 HBX2
      have hlen6 : us.length = rows.length := HLN.out
      rw [hlen6]
      obtain ⟨a6, c6, hb6⟩ := HK6.out.rows
      rw [List.length_append] at hb6
      have c1 := hb6.cell 1
      clear hb6
      simp only [List.length_cons, List.length_nil, Nat.zero_add] at c1
      by_cases hbig : 64 < rows.length + 1
      · have hbig' : (64 : Int) < (rows.length : Int) + 1 := by omega
        rw [if_pos hbig] at hr
        have DC := Lib.hid (drop_calls HK6.out 1 (Nat.le_refl _) (by simp) (by simp; omega) (by omega) hb1)
        rw [show ((1 : Nat) : Int) = 1 from rfl] at DC
        go_wp2_with fail
        (with_reducible refine (DC.out).mono ?_)
        rintro e w7 ⟨rfl, hk7, hw7⟩
        have HK7 := Lib.hid hk7
        have HW7 := Lib.hid hw7
        clear hk7 hw7 DC
        go_wp2_with fail
        go_ret
        rw [hr.out]
        exact ⟨rfl, HK7.out, HBW6.out.trans HW7.out⟩
      · have hbig' : (rows.length : Int) + 1 ≤ 64 := by omega
        rw [if_neg hbig] at hr
        go_wp2_with fail
        go_ret
        rw [hr.out]
        exact ⟨rfl, HK6.out, HBW6.out⟩
  · have hm' : mayB xs = false := by simpa using hm
    have hr := Lib.hid (show putS base rows xs = (1, base, rows) by unfold putS; rw [if_neg hm])
    rw [hm'] at MC
    go_enter Try.func16, Try.ntmps16
    go_wp2_with fail
    (with_reducible refine (MC.out _ (.mod HM0.out)).mono ?_)
    rintro e w1 ⟨rfl, hm1⟩
    have HM1 := Lib.hid (HM0.out.trans0 hm1)
    clear hm1
    go_wp2_with fail
    go_ret
    rw [hr.out]
    exact ⟨rfl, H.out.mod HM1.out, .mod hNw HM1.out⟩
end Go.Proofs.Ytceocpohdckkoaa.Bx
