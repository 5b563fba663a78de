/- The law AgendaWaits. -/
import Derived.Test.YtceocpohdckkoaaAgD
namespace Go.Proofs.Ytceocpohdckkoaa.Ag
open Go.RowKit Mem
set_option linter.unusedSimpArgs false
set_option linter.unusedVariables false
set_option maxRecDepth 100000

theorem hasI_append (A B : List It) (id : Int) : hasI (A ++ B) id = (hasI A id || hasI B id) := by unfold hasI; rw [List.any_append]
theorem due_left (S : List It) (now : Int) : dueI S now ++ leftI S now = S := List.takeWhile_append_dropWhile
theorem wait_told {S : List It} {last : Int} (h : Ok S last) (now id : Int) : (!(hasI S id) || hasI (dueI S now) id) = !(hasI (leftI S now) id) := by
  have hs := due_left S now
  have hi := h.ids
  rw [← hs, List.pairwise_append] at hi
  have he : hasI S id = (hasI (dueI S now) id || hasI (leftI S now) id) := by rw [← hasI_append, hs]
  cases h1 : hasI (dueI S now) id with
  | false => rw [he, h1]; simp
  | true =>
    cases h2 : hasI (leftI S now) id with
    | false => simp
    | true =>
      obtain ⟨a, ha, e1⟩ := hasI_iff.1 h1
      obtain ⟨b, hb, e2⟩ := hasI_iff.1 h2
      exact absurd (e1.trans e2.symm) (hi.2.2 a ha b hb)
theorem dueI_mem {S : List It} {now : Int} {s : It} (h : s ∈ dueI S now) : s ∈ S ∧ s.1 ≤ now := by
  refine ⟨(List.takeWhile_sublist _).subset h, ?_⟩
  have := mem_takeWhile (p := fun s => decide (s.1 ≤ now)) h
  simpa using this
theorem leftI_mem {S : List It} {last now : Int} (ho : Ok S last) {s : It} (h : s ∈ leftI S now) : s ∈ S ∧ now < s.1 := by
  rw [left_filter ho] at h
  have := List.mem_filter.1 h
  exact ⟨this.1, by simpa using this.2⟩
def toldB (S O : List It) (i j : Nat) : Bool := !(hasI S ((j : Int) + 1)) || hasI (O.take i) ((j : Int) + 1)
theorem told_succ {S O : List It} {i : Nat} (hi : i < O.length) {j : Nat} (hw : O[i].2.1 = (j : Int) + 1) (k : Nat) : toldB S O (i + 1) k = (toldB S O i k || k == j) := by
  unfold toldB
  rw [List.take_succ_eq_append_getElem hi, hasI_append, Bool.or_assoc]
  congr 2
  unfold hasI
  simp only [List.any_cons, List.any_nil, Bool.or_false, hw]
  rw [Bool.eq_iff_iff, beq_iff_eq, beq_iff_eq]
  omega
theorem ids_take {O : List It} {last : Int} (h : Ok O last) {i : Nat} (hi : i < O.length) : hasI (O.take i) O[i].2.1 = false := by
  cases hh : hasI (O.take i) O[i].2.1 with
  | false => rfl
  | true =>
    obtain ⟨s, hs, e⟩ := hasI_iff.1 hh
    obtain ⟨t, ht, rfl⟩ := List.getElem_of_mem hs
    rw [List.length_take] at ht
    rw [List.getElem_take] at e
    exact absurd e (List.pairwise_iff_getElem.1 h.ids t i (by omega) hi (by omega))
def fWait (xs : List Int) (i : Nat) : Int × Int := (xs.getD i 0, 0)
theorem getD_eq {xs : List Int} {j : Nat} (hj : j < xs.length) : xs.getD j 0 = xs[j] := by rw [List.getD_eq_getElem?_getD, List.getElem?_eq_getElem hj]; rfl

set_option maxHeartbeats 8000000 in
theorem agendaWaits_calls (w : World) (a : Value) (ha : Open.Rd w (.sl (.int .i64) 8) [a]) (b : Value) (hb : Open.Rd w (.sl (.int .i64) 8) [b]) :
    Calls Try.prog 5 #[a, b] w fun e w' => e = .returned (.bool true) ∧ Below w.heap.size w w' := by
  obtain ⟨xs, ad, acap, rfl, hal, hax, hac⟩ := ints_rd ha
  obtain ⟨ys, bd, bcap, rfl, hbl, hbx, hbc⟩ := ints_rd hb
  have AW := Lib.hid awake_calls
  have NW := Lib.hid (new_calls w)
  have HAC := Lib.hid hac
  have HBC := Lib.hid hbc
  have hal' : (xs.length : Int) ≤ 140737488351232 := by omega
  have hbl' : (ys.length : Int) ≤ 140737488351232 := by omega
  clear ha hax hac hb hbx hbc
  by_cases hbig : 200 < xs.length ∨ 200 < ys.length
  · rcases (by omega : 200 < xs.length ∨ (xs.length ≤ 200 ∧ 200 < ys.length)) with hb1 | ⟨hb1, hb2⟩
    · have hb' : (200 : Int) < xs.length := by omega
      clear hbig
      go_enter Try.func5, Try.ntmps5
      go_wp2_with fail
      (with_reducible refine NW.out.mono ?_)
      rintro e w1 ⟨rfl, _, hm⟩
      have HM1 := Lib.hid hm
      clear hm NW
      go_wp2_with fail
      (with_reducible refine (AW.out _).mono ?_)
      rintro e w2 ⟨rfl, hm⟩
      have HM2 := Lib.hid (HM1.out.trans0 hm)
      clear hm HM1
      go_wp2_with fail
      (with_reducible refine (AW.out _).mono ?_)
      rintro e w3 ⟨rfl, hm⟩
      have HM3 := Lib.hid (HM2.out.trans0 hm)
      clear hm HM2
      go_wp2_with fail
      go_ret
      exact ⟨rfl, HM3.out.below0⟩
    · have hb' : (xs.length : Int) ≤ 200 := by omega
      have hb'' : (200 : Int) < ys.length := by omega
      clear hbig
      go_enter Try.func5, Try.ntmps5
      go_wp2_with fail
      (with_reducible refine NW.out.mono ?_)
      rintro e w1 ⟨rfl, _, hm⟩
      have HM1 := Lib.hid hm
      clear hm NW
      go_wp2_with fail
      (with_reducible refine (AW.out _).mono ?_)
      rintro e w2 ⟨rfl, hm⟩
      have HM2 := Lib.hid (HM1.out.trans0 hm)
      clear hm HM1
      go_wp2_with fail
      (with_reducible refine (AW.out _).mono ?_)
      rintro e w3 ⟨rfl, hm⟩
      have HM3 := Lib.hid (HM2.out.trans0 hm)
      clear hm HM2
      go_wp2_with fail
      go_ret
      exact ⟨rfl, HM3.out.below0⟩
  have hn1 : xs.length ≤ 200 := by omega
  have hb1 : (xs.length : Int) ≤ 200 := by omega
  have hb2 : (ys.length : Int) ≤ 200 := by omega
  obtain ⟨f, hf⟩ : ∃ f, f = fWait xs := ⟨_, rfl⟩
  have HF := Lib.hid hf
  have ADD := Lib.hid (fun (i : Nat) x (h : AgW w x w.heap.size (i : Int) (addK f i)) (hi : i < 200) => add_ok w x w.heap.size (i : Int) (addK f i) (f i).1 (f i).2 h ⟨by omega, by omega⟩ (by rw [addK_len]; omega))
  have MK := make_bools xs.length (by omega)
  clear hf hbig
  go_enter Try.func5, Try.ntmps5
  go_wp2_with fail
  (with_reducible refine NW.out.mono ?_)
  rintro e w1 ⟨rfl, hag, hm⟩
  have H1 := Lib.hid hag
  clear hag hm NW
  go_wp2_with fail
  (with_reducible refine (AW.out _).mono ?_)
  rintro e w2 ⟨rfl, hm2⟩
  have H2 := Lib.hid ((H1.out.mod hm2).mod ((Mod.refl w2 []).alloc (.cells (bools xs.length (fun _ => false)) 4)))
  have HB2 := Lib.hid (Blk.new w2 (bools xs.length (fun _ => false)) 4)
  have hsbw : w.heap.size ≤ w2.heap.size := (H1.out.mod hm2).md.size
  clear hm2 H1 AW
  go_wp2_with fail
  obtain ⟨sb, hsb⟩ : ∃ sb, sb = w2.heap.size := ⟨_, rfl⟩
  rw [← hsb] at HB2 hsbw ⊢
  generalize w2.alloc _ = W at H2 HB2 ⊢
  clear hsb MK
  go_loopw [7] (fun vi wr => ∃ i : Nat, i ≤ xs.length ∧ vi = .int .i64 (i : Int) ∧ AgW w wr w.heap.size (i : Int) (addK f i) ∧ Blk wr sb (bools xs.length (fun _ => false)) 4) (fun vi _ => xs.length + 1 - (intOf vi).toNat)
  case atStart => exact ⟨0, Nat.zero_le _, rfl, H2.out, HB2.out⟩
  case round =>
    obtain ⟨i, hi, rfl, hag, hbk⟩ := hrel
    have HA := Lib.hid hag
    have HB := Lib.hid hbk
    clear hag hbk H2 HB2
    by_cases hlt : i < xs.length
    · have hlt' : (i : Int) < xs.length := by omega
      have ADD1 := Lib.hid (ADD.out i wr HA.out (by omega))
      have h2 : (f i).2 = 0 := by rw [HF.out]; rfl
      rw [h2] at ADD1
      have HN : Hid (insI (addK f i) ((f i).1, (i : Int) + 1, 0) = addK f (i + 1)) := Lib.hid (by show insI (addK f i) ((f i).1, (i : Int) + 1, 0) = insI (addK f i) ((f i).1, (i : Int) + 1, (f i).2); rw [h2])
      rw [HN.out] at ADD1
      obtain ⟨bb, off, rfl, hc⟩ := HAC.out.resolve_left (fun h => by rw [h] at hlt; simp at hlt)
      have c0 := keepC HA.out.md (hc i hlt)
      have h1 : (f i).1 = xs[i] := by rw [HF.out]; exact getD_eq hlt
      rw [h1] at ADD1
      clear hc h1 h2 HN
      generalize xs[i] = t at *
      go_wp2_with fail
      (with_reducible refine ADD1.out.mono ?_)
      rintro e w3 ⟨rfl, hag, hk⟩
      have HA3 := Lib.hid hag
      have HB3 := Lib.hid (hk _ _ _ (by decide) (by decide) HB.out)
      clear hag hk ADD1 c0
      go_wp2_with fail
      go_roundw
      case rel => exact ⟨i + 1, by omega, by go_num, by have h := HA3.out; exact_mod_cast h, HB3.out⟩
      case measure => simp [intOf]; omega
    · have hge : (xs.length : Int) ≤ i := by omega
      have hii : i = xs.length := by omega
      have H0 : Hid (∃ S, S.length ≤ xs.length ∧ AgW w wr w.heap.size (xs.length : Int) S ∧ (∀ s ∈ S, ∃ j, j < xs.length ∧ s = (xs.getD j 0, (j : Int) + 1, 0)) ∧ Blk wr sb (bools xs.length (fun j => !(hasI S ((j : Int) + 1)))) 4) := Lib.hid (by
        refine ⟨addK f xs.length, by rw [addK_len]; omega, by have h := HA.out; rw [hii] at h; exact h, fun s hs => ?_, ?_⟩
        · obtain ⟨j, hj, rfl⟩ := (addK_mem f).1 hs
          exact ⟨j, hj, by rw [HF.out]; rfl⟩
        · have h := HB.out
          rw [bools_congr (d := fun j => !(hasI (addK f xs.length) ((j : Int) + 1))) (fun j hj => by
            rw [addK_has, decide_eq_true (by omega)]; rfl)] at h
          exact h)
      clear HA HB ADD hii HF
      go_wp2_with fail
      obtain ⟨wo, rfl⟩ : ∃ wo : World, wo = wr := ⟨_, rfl⟩
      go_loopw [8] (fun vk wr => ∃ (k : Nat) (S : List It), k ≤ ys.length ∧ S.length ≤ xs.length ∧ vk = .int .i64 (k : Int) ∧ AgW w wr w.heap.size (xs.length : Int) S ∧ Hid (∀ s ∈ S, ∃ j, j < xs.length ∧ s = (xs.getD j 0, (j : Int) + 1, 0)) ∧ Blk wr sb (bools xs.length (fun j => !(hasI S ((j : Int) + 1)))) 4) (fun vk _ => ys.length + 1 - (intOf vk).toNat)
      case atStart =>
        obtain ⟨S, q0, q1, q2, q3⟩ := H0.out
        exact ⟨0, S, Nat.zero_le _, q0, rfl, q1, Lib.hid q2, q3⟩
      case round =>
        obtain ⟨k, S, hk, hSl, rfl, hag, HS, hbk⟩ := hrel
        have HA := Lib.hid hag
        have HB := Lib.hid hbk
        clear hag hbk H0
        by_cases hlt2 : k < ys.length
        · have hlt2' : (k : Int) < ys.length := by omega
          obtain ⟨yb, yoff, rfl, hyc⟩ := HBC.out.resolve_left (fun h => by rw [h] at hlt2; simp at hlt2)
          have hlenS : S.length ≤ 4096 := by omega
          have DU := Lib.hid (due_calls w wr w.heap.size (xs.length : Int) S (ys[k]) HA.out hlenS)
          have HYC := Lib.hid (fun w' (m : Mod w w' []) => keepC m (hyc k hlt2))
          have n0 := HYC.out wr HA.out.md
          have HOK := Lib.hid HA.out.ok
          unfold DueP at DU
          clear hyc
          generalize ys[k] = now at *
          go_wp2_with fail
          (with_reducible refine DU.out.mono ?_)
          rintro e w3 ⟨v, rfl, hag, hit, hkp⟩
          obtain ⟨O, hO⟩ : ∃ O, O = dueI S now := ⟨_, rfl⟩
          have HOM : Hid (∀ s ∈ O, s ∈ S ∧ s.1 ≤ now) := Lib.hid (fun s hs => dueI_mem (by rw [hO] at hs; exact hs))
          have HOO : Hid (Ok O (xs.length : Int)) := Lib.hid (HOK.out.sub (by rw [hO]; exact List.takeWhile_sublist _))
          have HTOLD : Hid (∀ j, toldB S O O.length j = !(hasI (leftI S now) ((j : Int) + 1))) := Lib.hid (fun j => by
            unfold toldB; rw [List.take_length, hO]; exact wait_told HOK.out now _)
          have HLM : Hid (∀ s ∈ leftI S now, s ∈ S ∧ now < s.1) := Lib.hid (fun s hs => leftI_mem HOK.out hs)
          have HTLEN : Hid ((leftI S now).length ≤ xs.length) := Lib.hid (Nat.le_trans (List.dropWhile_sublist _).length_le hSl)
          rw [← hO] at hit
          have hOS : O.length ≤ S.length := by rw [hO]; exact (List.takeWhile_sublist _).length_le
          have HA3 := Lib.hid hag
          have HI3 := Lib.hid hit
          have HB3 : Hid (Blk w3 sb (bools xs.length (toldB S O 0)) 4) := Lib.hid (by
            have h := hkp _ _ _ (by decide) (by decide) HB.out
            rw [bools_congr (d := toldB S O 0) (fun j _ => by simp [toldB, hasI])] at h
            exact h)
          obtain ⟨va, vc, rfl⟩ := Rw.own_slice hit
          obtain ⟨T, hT⟩ : ∃ T, T = leftI S now := ⟨_, rfl⟩
          rw [← hT] at HTOLD HLM HA3 HTLEN
          obtain ⟨base, hbase⟩ : ∃ base, base = wr.heap.size := ⟨_, rfl⟩
          rw [← hbase] at HI3
          clear hag hit hkp DU HA HB hO n0 hT hbase
          go_wp2_with fail
          obtain ⟨wk, rfl⟩ : ∃ wk : World, wk = wr := ⟨_, rfl⟩
          have hOl : (O.length : Int) ≤ 200 := by omega
          go_loopw [10] (fun vi wr => ∃ i : Nat, i ≤ O.length ∧ vi = .int .i64 (i : Int) ∧ AgW w wr w.heap.size (xs.length : Int) T ∧ ItAt wr base (.slice va O.length vc) O ∧ Blk wr sb (bools xs.length (toldB S O i)) 4) (fun vi _ => O.length + 1 - (intOf vi).toNat)
          case atStart => exact ⟨0, Nat.zero_le _, rfl, HA3.out, HI3.out, HB3.out⟩
          case round =>
            obtain ⟨i2, hi2, rfl, hag, hit, hbk⟩ := hrel
            have HA := Lib.hid hag
            have HI := Lib.hid hit
            have HB := Lib.hid hbk
            clear hag hit hbk HA3 HI3 HB3
            by_cases hlt3 : i2 < O.length
            · have hlt3' : (i2 : Int) < O.length := by omega
              obtain ⟨hxS, hxn⟩ := HOM.out O[i2] (List.getElem_mem hlt3)
              obtain ⟨j, hj, hxe⟩ := HS.out O[i2] hxS
              have hj' : (j : Int) < xs.length := by omega
              have htold : toldB S O i2 j = false := by
                unfold toldB
                have h1 : hasI S ((j : Int) + 1) = true := hasI_iff.2 ⟨O[i2], hxS, by rw [hxe]⟩
                have h2 := ids_take HOO.out hlt3
                rw [hxe] at h2
                have h2 : hasI (O.take i2) ((j : Int) + 1) = false := h2
                rw [h1, h2]; rfl
              have HSN : Hid (bools xs.length (fun t => toldB S O i2 t || t == j) = bools xs.length (toldB S O (i2 + 1))) := Lib.hid (bools_congr (fun t _ => (told_succ hlt3 (by rw [hxe]) t).symm))
              obtain ⟨bb, off, rfl, hc⟩ := HAC.out.resolve_left (fun h => by rw [h] at hj; simp at hj)
              have c0 := keepC HA.out.md (hc j hj)
              have n0 := HYC.out wr HA.out.md
              rcases HI.out.shape with ⟨_, h0⟩ | ⟨ob, cap, hv, _, _, _, hobl, _, h4⟩
              · rw [h0] at hlt3; simp at hlt3
              · injection hv with q1 q2 q3
                subst q1 q3
                obtain ⟨e0, e1, e2⟩ := h4 i2 hlt3
                rw [hxe] at e0 e1 e2 hxn
                simp only at e0 e1 e2 hxn
                rw [getD_eq hj] at hxn
                have s0 : wr.cell? ⟨sb, j, none⟩ = some (.bool false) := by rw [HB.out.cell, bools_get hj, htold]
                have s1 := HB.out.free j
                have hsl := HB.out.lt
                clear q2 h4 hc hxe htold hxS e0 e2
                generalize xs[j] = t at *
                have hd0 : decide (now < t) = false := decide_eq_false (by omega)
                have hd1 : decide (xs.length ≤ j) = false := decide_eq_false (by omega)
                have hwj := IntWalk.i64_in (j : Int) (by omega)
                have HW5 : Hid (∀ w4, Mod wr w4 [] → AgW w (w4.setCell ⟨sb, j, none⟩ (.bool true)) w.heap.size (xs.length : Int) T ∧ ItAt (w4.setCell ⟨sb, j, none⟩ (.bool true)) base (.slice (some ⟨ob, 0, none⟩) O.length vc) O ∧ Blk (w4.setCell ⟨sb, j, none⟩ (.bool true)) sb (bools xs.length (toldB S O (i2 + 1))) 4) := Lib.hid (fun w4 hC => by
                  have hb4 := HB.out.mod hC (by simp)
                  refine ⟨(HA.out.mod hC).far hb4 (by decide) (by decide) hsbw, (HI.out.mod hC (by simp)).far hb4 (by decide), ?_⟩
                  rw [← HSN.out, ← bools_set]
                  exact hb4.set j _)
                have HFZ := Lib.hid (fun w4 (hC : Mod wr w4 []) => (HB.out.mod hC (by simp)).free j)
                have HLT := Lib.hid (fun w4 (hC : Mod wr w4 []) => (HB.out.mod hC (by simp)).lt)
                clear HA HI HB HSN s1 hsl
                go_wp2_with fail
                refine Fx.wp_region_f [] (fun _ w' => Mod wr w' []) (by kernel_rfl) (by decide) (Mod.refl _ _).drew ?_
                have hSS : ∀ (m' : Nat) w', Mod wr w' [] → _ := fun m' w' h => (⟨keepC h c0, keepC h n0, keepC h s0⟩ : _ ∧ _ ∧ _)
                refine Fx.take (i := 0) (v := ?_) _ rfl (by kernel_rfl) (by kernel_rfl) (by rfl) hSS ?_ ?_
                rotate_left
                · (intro w' hSw; (try dsimp only at hSw); go_simp; first | done | with_reducible rfl)
                try simp only [List.getElem_toArray, List.getElem_cons_succ, List.getElem_cons_zero, Act.put, List.setIfInBounds_toArray, List.set_cons_zero, List.set_cons_succ]
                refine Fx.take (i := 1) (v := ?_) _ rfl (by kernel_rfl) (by kernel_rfl) (by rfl) hSS ?_ ?_
                rotate_left
                · (intro w' hSw; (try dsimp only at hSw); go_simp; first | done | with_reducible rfl)
                try simp only [List.getElem_toArray, List.getElem_cons_succ, List.getElem_cons_zero, Act.put, List.setIfInBounds_toArray, List.set_cons_zero, List.set_cons_succ]
                refine Fx.take (i := 2) (v := ?_) _ rfl (by kernel_rfl) (by kernel_rfl) (by rfl) hSS ?_ ?_
                rotate_left
                · (intro w' hSw; (try dsimp only at hSw); go_simp; first | done | with_reducible rfl)
                try simp only [List.getElem_toArray, List.getElem_cons_succ, List.getElem_cons_zero, Act.put, List.setIfInBounds_toArray, List.set_cons_zero, List.set_cons_succ]
                refine Fx.take (i := 3) (v := ?_) _ rfl (by kernel_rfl) (by kernel_rfl) (by rfl) hSS ?_ ?_
                rotate_left
                · (intro w' hSw; (try dsimp only at hSw); go_simp; first | done | with_reducible rfl)
                try simp only [List.getElem_toArray, List.getElem_cons_succ, List.getElem_cons_zero, Act.put, List.setIfInBounds_toArray, List.set_cons_zero, List.set_cons_succ]
                refine Fx.take (i := 4) (v := ?_) _ rfl (by kernel_rfl) (by kernel_rfl) (by rfl) hSS ?_ ?_
                rotate_left
                · (intro w' hSw; (try dsimp only at hSw); go_simp; first | done | with_reducible rfl)
                try simp only [List.getElem_toArray, List.getElem_cons_succ, List.getElem_cons_zero, Act.put, List.setIfInBounds_toArray, List.set_cons_zero, List.set_cons_succ]
                refine Fx.take (i := 5) (v := ?_) _ rfl (by kernel_rfl) (by kernel_rfl) (by rfl) hSS ?_ ?_
                rotate_left
                · (intro w' hSw; (try dsimp only at hSw); go_simp; first | done | with_reducible rfl)
                try simp only [List.getElem_toArray, List.getElem_cons_succ, List.getElem_cons_zero, Act.put, List.setIfInBounds_toArray, List.set_cons_zero, List.set_cons_succ]
                refine Fx.take (i := 6) (v := ?_) _ rfl (by kernel_rfl) (by kernel_rfl) (by rfl) hSS ?_ ?_
                rotate_left
                · (intro w' hSw; (try dsimp only at hSw); go_simp; first | done | with_reducible rfl)
                try simp only [List.getElem_toArray, List.getElem_cons_succ, List.getElem_cons_zero, Act.put, List.setIfInBounds_toArray, List.set_cons_zero, List.set_cons_succ]
                refine Fx.take (i := 7) (v := ?_) _ rfl (by kernel_rfl) (by kernel_rfl) (by rfl) hSS ?_ ?_
                rotate_left
                · (intro w' hSw; (try dsimp only at hSw); go_simp; first | done | with_reducible rfl)
                try simp only [List.getElem_toArray, List.getElem_cons_succ, List.getElem_cons_zero, Act.put, List.setIfInBounds_toArray, List.set_cons_zero, List.set_cons_succ]
                refine Fx.take (i := 8) (v := ?_) _ rfl (by kernel_rfl) (by kernel_rfl) (by rfl) hSS ?_ ?_
                rotate_left
                · (intro w' hSw; (try dsimp only at hSw); go_simp; first | done | with_reducible rfl)
                try simp only [List.getElem_toArray, List.getElem_cons_succ, List.getElem_cons_zero, Act.put, List.setIfInBounds_toArray, List.set_cons_zero, List.set_cons_succ]
                refine Fx.take (i := 9) (v := ?_) _ rfl (by kernel_rfl) (by kernel_rfl) (by rfl) hSS ?_ ?_
                rotate_left
                · (intro w' hSw; (try dsimp only at hSw); go_simp; first | done | with_reducible rfl)
                try simp only [List.getElem_toArray, List.getElem_cons_succ, List.getElem_cons_zero, Act.put, List.setIfInBounds_toArray, List.set_cons_zero, List.set_cons_succ]
                refine Fx.take (i := 10) (v := ?_) _ rfl (by kernel_rfl) (by kernel_rfl) (by rfl) hSS ?_ ?_
                rotate_left
                · (intro w' hSw; (try dsimp only at hSw); go_simp; first | done | with_reducible rfl)
                try simp only [List.getElem_toArray, List.getElem_cons_succ, List.getElem_cons_zero, Act.put, List.setIfInBounds_toArray, List.set_cons_zero, List.set_cons_succ]
                refine Fx.take (i := 11) (v := ?_) _ rfl (by kernel_rfl) (by kernel_rfl) (by rfl) hSS ?_ ?_
                rotate_left
                · (intro w' hSw; (try dsimp only at hSw); go_simp; first | done | with_reducible rfl)
                try simp only [List.getElem_toArray, List.getElem_cons_succ, List.getElem_cons_zero, Act.put, List.setIfInBounds_toArray, List.set_cons_zero, List.set_cons_succ]
                refine Fx.take (i := 12) (v := ?_) _ rfl (by kernel_rfl) (by kernel_rfl) (by rfl) hSS ?_ ?_
                rotate_left
                · (intro w' hSw; (try dsimp only at hSw); go_simp; first | done | with_reducible rfl)
                try simp only [List.getElem_toArray, List.getElem_cons_succ, List.getElem_cons_zero, Act.put, List.setIfInBounds_toArray, List.set_cons_zero, List.set_cons_succ]
                refine Fx.take (i := 13) (v := ?_) _ rfl (by kernel_rfl) (by kernel_rfl) (by rfl) hSS ?_ ?_
                rotate_left
                · (intro w' hSw; (try dsimp only at hSw); go_simp; first | done | with_reducible rfl)
                try simp only [List.getElem_toArray, List.getElem_cons_succ, List.getElem_cons_zero, Act.put, List.setIfInBounds_toArray, List.set_cons_zero, List.set_cons_succ]
                refine Fx.take (i := 14) (v := ?_) _ rfl (by kernel_rfl) (by kernel_rfl) (by rfl) hSS ?_ ?_
                rotate_left
                · (intro w' hSw; (try dsimp only at hSw); go_simp; first | done | with_reducible rfl)
                try simp only [List.getElem_toArray, List.getElem_cons_succ, List.getElem_cons_zero, Act.put, List.setIfInBounds_toArray, List.set_cons_zero, List.set_cons_succ]
                refine Fx.take (i := 15) (v := ?_) _ rfl (by kernel_rfl) (by kernel_rfl) (by rfl) hSS ?_ ?_
                rotate_left
                · (intro w' hSw; (try dsimp only at hSw); go_simp; first | done | with_reducible rfl)
                try simp only [List.getElem_toArray, List.getElem_cons_succ, List.getElem_cons_zero, Act.put, List.setIfInBounds_toArray, List.set_cons_zero, List.set_cons_succ]
                refine Fx.take (i := 16) (v := ?_) _ rfl (by kernel_rfl) (by kernel_rfl) (by rfl) hSS ?_ ?_
                rotate_left
                · (intro w' hSw; (try dsimp only at hSw); go_simp; first | done | with_reducible rfl)
                try simp only [List.getElem_toArray, List.getElem_cons_succ, List.getElem_cons_zero, Act.put, List.setIfInBounds_toArray, List.set_cons_zero, List.set_cons_succ]
                refine Fx.take (i := 17) (v := ?_) _ rfl (by kernel_rfl) (by kernel_rfl) (by rfl) hSS ?_ ?_
                rotate_left
                · (intro w' hSw; (try dsimp only at hSw); go_simp; first | done | with_reducible rfl)
                try simp only [List.getElem_toArray, List.getElem_cons_succ, List.getElem_cons_zero, Act.put, List.setIfInBounds_toArray, List.set_cons_zero, List.set_cons_succ]
                refine Fx.take (i := 18) (v := ?_) _ rfl (by kernel_rfl) (by kernel_rfl) (by rfl) hSS ?_ ?_
                rotate_left
                · (intro w' hSw; (try dsimp only at hSw); go_simp; first | done | with_reducible rfl)
                try simp only [List.getElem_toArray, List.getElem_cons_succ, List.getElem_cons_zero, Act.put, List.setIfInBounds_toArray, List.set_cons_zero, List.set_cons_succ]
                refine Fx.take (i := 19) (v := ?_) _ rfl (by kernel_rfl) (by kernel_rfl) (by rfl) hSS ?_ ?_
                rotate_left
                · (intro w' hSw; (try dsimp only at hSw); go_simp; first | done | with_reducible rfl)
                try simp only [List.getElem_toArray, List.getElem_cons_succ, List.getElem_cons_zero, Act.put, List.setIfInBounds_toArray, List.set_cons_zero, List.set_cons_succ]
                refine Fx.take (i := 20) (v := ?_) _ rfl (by kernel_rfl) (by kernel_rfl) (by rfl) hSS ?_ ?_
                rotate_left
                · (intro w' hSw; (try dsimp only at hSw); go_simp; first | done | with_reducible rfl)
                try simp only [List.getElem_toArray, List.getElem_cons_succ, List.getElem_cons_zero, Act.put, List.setIfInBounds_toArray, List.set_cons_zero, List.set_cons_succ]
                refine Fx.take (i := 21) (v := ?_) _ rfl (by kernel_rfl) (by kernel_rfl) (by rfl) hSS ?_ ?_
                rotate_left
                · (intro w' hSw; (try dsimp only at hSw); go_simp; first | done | with_reducible rfl)
                try simp only [List.getElem_toArray, List.getElem_cons_succ, List.getElem_cons_zero, Act.put, List.setIfInBounds_toArray, List.set_cons_zero, List.set_cons_succ]
                refine Fx.take (i := 22) (v := ?_) _ rfl (by kernel_rfl) (by kernel_rfl) (by rfl) hSS ?_ ?_
                rotate_left
                · (intro w' hSw; (try dsimp only at hSw); go_simp; first | done | with_reducible rfl)
                try simp only [List.getElem_toArray, List.getElem_cons_succ, List.getElem_cons_zero, Act.put, List.setIfInBounds_toArray, List.set_cons_zero, List.set_cons_succ]
                refine Fx.take (i := 23) (v := ?_) _ rfl (by kernel_rfl) (by kernel_rfl) (by rfl) hSS ?_ ?_
                rotate_left
                · (intro w' hSw; (try dsimp only at hSw); go_simp; first | done | with_reducible rfl)
                try simp only [List.getElem_toArray, List.getElem_cons_succ, List.getElem_cons_zero, Act.put, List.setIfInBounds_toArray, List.set_cons_zero, List.set_cons_succ]
                refine Fx.take (i := 24) (v := ?_) _ rfl (by kernel_rfl) (by kernel_rfl) (by rfl) hSS ?_ ?_
                rotate_left
                · (intro w' hSw; (try dsimp only at hSw); go_simp; first | done | with_reducible rfl)
                try simp only [List.getElem_toArray, List.getElem_cons_succ, List.getElem_cons_zero, Act.put, List.setIfInBounds_toArray, List.set_cons_zero, List.set_cons_succ]
                refine Fx.done 0 (by kernel_rfl) (by kernel_rfl) (fun w4 hC => ?_)
                have s2 := keepC hC s0
                have s3 := HFZ.out w4 hC
                have s4 := HLT.out w4 hC
                have HN5 := Lib.hid (HW5.out w4 hC)
                clear hC hSS HW5 HFZ HLT s0 c0 n0 e1
                go_wp2_with fail
                go_roundw
                case rel => exact ⟨i2 + 1, by omega, by go_num, HN5.out.1, HN5.out.2.1, HN5.out.2.2⟩
                case measure => simp [intOf]; omega
            · have hge3 : (O.length : Int) ≤ i2 := by omega
              have hi2e : i2 = O.length := by omega
              have HB4 : Hid (Blk wr sb (bools xs.length (fun j => !(hasI T ((j : Int) + 1)))) 4) := Lib.hid (by
                have h := HB.out
                rw [hi2e, bools_congr (d := fun j => !(hasI T ((j : Int) + 1))) (fun j _ => HTOLD.out j)] at h
                exact h)
              have HTM : Hid (∀ s ∈ T, ∃ j, j < xs.length ∧ s = (xs.getD j 0, (j : Int) + 1, 0)) := Lib.hid (fun s hs => HS.out s (HLM.out s hs).1)
              have HTL : Hid (T.length ≤ xs.length) := Lib.hid HTLEN.out
              have HA4 := HA
              clear HA HB HI hi2e HTOLD HOM HOO
              go_wp2_with fail
              obtain ⟨wj, rfl⟩ : ∃ wj : World, wj = wr := ⟨_, rfl⟩
              go_loopw [12] (fun vi wr => ∃ i : Nat, i ≤ xs.length ∧ vi = .int .i64 (i : Int) ∧ AgW w wr w.heap.size (xs.length : Int) T ∧ Blk wr sb (bools xs.length (fun j => !(hasI T ((j : Int) + 1)))) 4) (fun vi _ => xs.length + 1 - (intOf vi).toNat)
              case atStart => exact ⟨0, Nat.zero_le _, rfl, HA4.out, HB4.out⟩
              case round =>
                obtain ⟨i3, hi3, rfl, hag, hbk⟩ := hrel
                have HA := Lib.hid hag
                have HB := Lib.hid hbk
                clear hag hbk HA4 HB4
                by_cases hlt4 : i3 < xs.length
                · have hlt4' : (i3 : Int) < xs.length := by omega
                  obtain ⟨bb, off, rfl, hc⟩ := HAC.out.resolve_left (fun h => by rw [h] at hlt4; simp at hlt4)
                  have c0 := keepC HA.out.md (hc i3 hlt4)
                  have n0 := HYC.out wr HA.out.md
                  have s0 : wr.cell? ⟨sb, i3, none⟩ = some (.bool (!(hasI T ((i3 : Int) + 1)))) := by rw [HB.out.cell, bools_get hlt4]
                  have hsl := HB.out.lt
                  have hlate : hasI T ((i3 : Int) + 1) = true → now < xs[i3] := fun h => by
                    obtain ⟨s, hs, he⟩ := hasI_iff.1 h
                    obtain ⟨j, hj, rfl⟩ := HTM.out s hs
                    have hlt5 := (HLM.out _ hs).2
                    have : j = i3 := by
                      have he : (j : Int) + 1 = (i3 : Int) + 1 := he
                      omega
                    subst this
                    have hlt5 : now < xs.getD j 0 := hlt5
                    rw [getD_eq hj] at hlt5
                    exact hlt5
                  clear hc
                  generalize xs[i3] = t at *
                  have HEND : Hid (∀ w4, Mod wr w4 [] → AgW w w4 w.heap.size (xs.length : Int) T ∧ Blk w4 sb (bools xs.length (fun j => !(hasI T ((j : Int) + 1)))) 4) := Lib.hid (fun w4 hC => ⟨HA.out.mod hC, HB.out.mod hC (by simp)⟩)
                  clear HA HB
                  cases hh : hasI T ((i3 : Int) + 1) with
                  | true =>
                    rw [hh] at s0
                    have hd0 : decide (t ≤ now) = false := decide_eq_false (by have := hlate hh; omega)
                    clear hlate hh
                    simp only [Bool.not_true] at s0
                    go_wp2_with fail
                    refine Fx.wp_region_f [] (fun _ w' => Mod wr w' []) (by kernel_rfl) (by decide) (Mod.refl _ _).drew ?_
                    have hSS : ∀ (m' : Nat) w', Mod wr w' [] → _ := fun m' w' h => (⟨keepC h c0, keepC h n0, keepC h s0⟩ : _ ∧ _ ∧ _)
                    refine Fx.take (i := 0) (v := ?_) _ rfl (by kernel_rfl) (by kernel_rfl) (by rfl) hSS ?_ ?_
                    rotate_left
                    · (intro w' hSw; (try dsimp only at hSw); go_simp; first | done | with_reducible rfl)
                    try simp only [List.getElem_toArray, List.getElem_cons_succ, List.getElem_cons_zero, Act.put, List.setIfInBounds_toArray, List.set_cons_zero, List.set_cons_succ]
                    refine Fx.take (i := 1) (v := ?_) _ rfl (by kernel_rfl) (by kernel_rfl) (by rfl) hSS ?_ ?_
                    rotate_left
                    · (intro w' hSw; (try dsimp only at hSw); go_simp; first | done | with_reducible rfl)
                    try simp only [List.getElem_toArray, List.getElem_cons_succ, List.getElem_cons_zero, Act.put, List.setIfInBounds_toArray, List.set_cons_zero, List.set_cons_succ]
                    refine Fx.take (i := 2) (v := ?_) _ rfl (by kernel_rfl) (by kernel_rfl) (by rfl) hSS ?_ ?_
                    rotate_left
                    · (intro w' hSw; (try dsimp only at hSw); go_simp; first | done | with_reducible rfl)
                    try simp only [List.getElem_toArray, List.getElem_cons_succ, List.getElem_cons_zero, Act.put, List.setIfInBounds_toArray, List.set_cons_zero, List.set_cons_succ]
                    refine Fx.take (i := 3) (v := ?_) _ rfl (by kernel_rfl) (by kernel_rfl) (by rfl) hSS ?_ ?_
                    rotate_left
                    · (intro w' hSw; (try dsimp only at hSw); go_simp; first | done | with_reducible rfl)
                    try simp only [List.getElem_toArray, List.getElem_cons_succ, List.getElem_cons_zero, Act.put, List.setIfInBounds_toArray, List.set_cons_zero, List.set_cons_succ]
                    refine Fx.take (i := 4) (v := ?_) _ rfl (by kernel_rfl) (by kernel_rfl) (by rfl) hSS ?_ ?_
                    rotate_left
                    · (intro w' hSw; (try dsimp only at hSw); go_simp; first | done | with_reducible rfl)
                    try simp only [List.getElem_toArray, List.getElem_cons_succ, List.getElem_cons_zero, Act.put, List.setIfInBounds_toArray, List.set_cons_zero, List.set_cons_succ]
                    refine Fx.take (i := 5) (v := ?_) _ rfl (by kernel_rfl) (by kernel_rfl) (by rfl) hSS ?_ ?_
                    rotate_left
                    · (intro w' hSw; (try dsimp only at hSw); go_simp; first | done | with_reducible rfl)
                    try simp only [List.getElem_toArray, List.getElem_cons_succ, List.getElem_cons_zero, Act.put, List.setIfInBounds_toArray, List.set_cons_zero, List.set_cons_succ]
                    refine Fx.take (i := 6) (v := ?_) _ rfl (by kernel_rfl) (by kernel_rfl) (by rfl) hSS ?_ ?_
                    rotate_left
                    · (intro w' hSw; (try dsimp only at hSw); go_simp; first | done | with_reducible rfl)
                    try simp only [List.getElem_toArray, List.getElem_cons_succ, List.getElem_cons_zero, Act.put, List.setIfInBounds_toArray, List.set_cons_zero, List.set_cons_succ]
                    refine Fx.take (i := 7) (v := ?_) _ rfl (by kernel_rfl) (by kernel_rfl) (by rfl) hSS ?_ ?_
                    rotate_left
                    · (intro w' hSw; (try dsimp only at hSw); go_simp; first | done | with_reducible rfl)
                    try simp only [List.getElem_toArray, List.getElem_cons_succ, List.getElem_cons_zero, Act.put, List.setIfInBounds_toArray, List.set_cons_zero, List.set_cons_succ]
                    refine Fx.take (i := 8) (v := ?_) _ rfl (by kernel_rfl) (by kernel_rfl) (by rfl) hSS ?_ ?_
                    rotate_left
                    · (intro w' hSw; (try dsimp only at hSw); go_simp; first | done | with_reducible rfl)
                    try simp only [List.getElem_toArray, List.getElem_cons_succ, List.getElem_cons_zero, Act.put, List.setIfInBounds_toArray, List.set_cons_zero, List.set_cons_succ]
                    refine Fx.take (i := 9) (v := ?_) _ rfl (by kernel_rfl) (by kernel_rfl) (by rfl) hSS ?_ ?_
                    rotate_left
                    · (intro w' hSw; (try dsimp only at hSw); go_simp; first | done | with_reducible rfl)
                    try simp only [List.getElem_toArray, List.getElem_cons_succ, List.getElem_cons_zero, Act.put, List.setIfInBounds_toArray, List.set_cons_zero, List.set_cons_succ]
                    refine Fx.take (i := 10) (v := ?_) _ rfl (by kernel_rfl) (by kernel_rfl) (by rfl) hSS ?_ ?_
                    rotate_left
                    · (intro w' hSw; (try dsimp only at hSw); go_simp; first | done | with_reducible rfl)
                    try simp only [List.getElem_toArray, List.getElem_cons_succ, List.getElem_cons_zero, Act.put, List.setIfInBounds_toArray, List.set_cons_zero, List.set_cons_succ]
                    refine Fx.take (i := 11) (v := ?_) _ rfl (by kernel_rfl) (by kernel_rfl) (by rfl) hSS ?_ ?_
                    rotate_left
                    · (intro w' hSw; (try dsimp only at hSw); go_simp; first | done | with_reducible rfl)
                    try simp only [List.getElem_toArray, List.getElem_cons_succ, List.getElem_cons_zero, Act.put, List.setIfInBounds_toArray, List.set_cons_zero, List.set_cons_succ]
                    refine Fx.take (i := 12) (v := ?_) _ rfl (by kernel_rfl) (by kernel_rfl) (by rfl) hSS ?_ ?_
                    rotate_left
                    · (intro w' hSw; (try dsimp only at hSw); go_simp; first | done | with_reducible rfl)
                    try simp only [List.getElem_toArray, List.getElem_cons_succ, List.getElem_cons_zero, Act.put, List.setIfInBounds_toArray, List.set_cons_zero, List.set_cons_succ]
                    refine Fx.take (i := 13) (v := ?_) _ rfl (by kernel_rfl) (by kernel_rfl) (by rfl) hSS ?_ ?_
                    rotate_left
                    · (intro w' hSw; (try dsimp only at hSw); go_simp; first | done | with_reducible rfl)
                    try simp only [List.getElem_toArray, List.getElem_cons_succ, List.getElem_cons_zero, Act.put, List.setIfInBounds_toArray, List.set_cons_zero, List.set_cons_succ]
                    refine Fx.take (i := 14) (v := ?_) _ rfl (by kernel_rfl) (by kernel_rfl) (by rfl) hSS ?_ ?_
                    rotate_left
                    · (intro w' hSw; (try dsimp only at hSw); go_simp; first | done | with_reducible rfl)
                    try simp only [List.getElem_toArray, List.getElem_cons_succ, List.getElem_cons_zero, Act.put, List.setIfInBounds_toArray, List.set_cons_zero, List.set_cons_succ]
                    refine Fx.take (i := 15) (v := ?_) _ rfl (by kernel_rfl) (by kernel_rfl) (by rfl) hSS ?_ ?_
                    rotate_left
                    · (intro w' hSw; (try dsimp only at hSw); go_simp; first | done | with_reducible rfl)
                    try simp only [List.getElem_toArray, List.getElem_cons_succ, List.getElem_cons_zero, Act.put, List.setIfInBounds_toArray, List.set_cons_zero, List.set_cons_succ]
                    refine Fx.done 0 (by kernel_rfl) (by kernel_rfl) (fun w4 hC => ?_)
                    have HN5 := Lib.hid (HEND.out w4 hC)
                    clear hC hSS HEND s0 c0 n0
                    go_wp2_with fail
                    go_roundw
                    case rel => exact ⟨i3 + 1, by omega, by go_num, HN5.out.1, HN5.out.2⟩
                    case measure => simp [intOf]; omega
                  | false =>
                    rw [hh] at s0
                    clear hlate hh
                    simp only [Bool.not_false] at s0
                    go_wp2_with fail
                    refine Fx.wp_region_f [] (fun _ w' => Mod wr w' []) (by kernel_rfl) (by decide) (Mod.refl _ _).drew ?_
                    have hSS : ∀ (m' : Nat) w', Mod wr w' [] → _ := fun m' w' h => (⟨keepC h c0, keepC h n0, keepC h s0⟩ : _ ∧ _ ∧ _)
                    refine Fx.take (i := 0) (v := ?_) _ rfl (by kernel_rfl) (by kernel_rfl) (by rfl) hSS ?_ ?_
                    rotate_left
                    · (intro w' hSw; (try dsimp only at hSw); go_simp; first | done | with_reducible rfl)
                    try simp only [List.getElem_toArray, List.getElem_cons_succ, List.getElem_cons_zero, Act.put, List.setIfInBounds_toArray, List.set_cons_zero, List.set_cons_succ]
                    refine Fx.take (i := 1) (v := ?_) _ rfl (by kernel_rfl) (by kernel_rfl) (by rfl) hSS ?_ ?_
                    rotate_left
                    · (intro w' hSw; (try dsimp only at hSw); go_simp; first | done | with_reducible rfl)
                    try simp only [List.getElem_toArray, List.getElem_cons_succ, List.getElem_cons_zero, Act.put, List.setIfInBounds_toArray, List.set_cons_zero, List.set_cons_succ]
                    refine Fx.take (i := 2) (v := ?_) _ rfl (by kernel_rfl) (by kernel_rfl) (by rfl) hSS ?_ ?_
                    rotate_left
                    · (intro w' hSw; (try dsimp only at hSw); go_simp; first | done | with_reducible rfl)
                    try simp only [List.getElem_toArray, List.getElem_cons_succ, List.getElem_cons_zero, Act.put, List.setIfInBounds_toArray, List.set_cons_zero, List.set_cons_succ]
                    refine Fx.take (i := 3) (v := ?_) _ rfl (by kernel_rfl) (by kernel_rfl) (by rfl) hSS ?_ ?_
                    rotate_left
                    · (intro w' hSw; (try dsimp only at hSw); go_simp; first | done | with_reducible rfl)
                    try simp only [List.getElem_toArray, List.getElem_cons_succ, List.getElem_cons_zero, Act.put, List.setIfInBounds_toArray, List.set_cons_zero, List.set_cons_succ]
                    refine Fx.take (i := 4) (v := ?_) _ rfl (by kernel_rfl) (by kernel_rfl) (by rfl) hSS ?_ ?_
                    rotate_left
                    · (intro w' hSw; (try dsimp only at hSw); go_simp; first | done | with_reducible rfl)
                    try simp only [List.getElem_toArray, List.getElem_cons_succ, List.getElem_cons_zero, Act.put, List.setIfInBounds_toArray, List.set_cons_zero, List.set_cons_succ]
                    refine Fx.take (i := 5) (v := ?_) _ rfl (by kernel_rfl) (by kernel_rfl) (by rfl) hSS ?_ ?_
                    rotate_left
                    · (intro w' hSw; (try dsimp only at hSw); go_simp; first | done | with_reducible rfl)
                    try simp only [List.getElem_toArray, List.getElem_cons_succ, List.getElem_cons_zero, Act.put, List.setIfInBounds_toArray, List.set_cons_zero, List.set_cons_succ]
                    refine Fx.skip (i := 6) rfl (by kernel_rfl) (by kernel_rfl) (by rfl) ?_
                    try simp only [List.getElem_toArray, List.getElem_cons_succ, List.getElem_cons_zero, Act.put, List.setIfInBounds_toArray, List.set_cons_zero, List.set_cons_succ]
                    refine Fx.skip (i := 7) rfl (by kernel_rfl) (by kernel_rfl) (by rfl) ?_
                    try simp only [List.getElem_toArray, List.getElem_cons_succ, List.getElem_cons_zero, Act.put, List.setIfInBounds_toArray, List.set_cons_zero, List.set_cons_succ]
                    refine Fx.skip (i := 8) rfl (by kernel_rfl) (by kernel_rfl) (by rfl) ?_
                    try simp only [List.getElem_toArray, List.getElem_cons_succ, List.getElem_cons_zero, Act.put, List.setIfInBounds_toArray, List.set_cons_zero, List.set_cons_succ]
                    refine Fx.skip (i := 9) rfl (by kernel_rfl) (by kernel_rfl) (by rfl) ?_
                    try simp only [List.getElem_toArray, List.getElem_cons_succ, List.getElem_cons_zero, Act.put, List.setIfInBounds_toArray, List.set_cons_zero, List.set_cons_succ]
                    refine Fx.skip (i := 10) rfl (by kernel_rfl) (by kernel_rfl) (by rfl) ?_
                    try simp only [List.getElem_toArray, List.getElem_cons_succ, List.getElem_cons_zero, Act.put, List.setIfInBounds_toArray, List.set_cons_zero, List.set_cons_succ]
                    refine Fx.skip (i := 11) rfl (by kernel_rfl) (by kernel_rfl) (by rfl) ?_
                    try simp only [List.getElem_toArray, List.getElem_cons_succ, List.getElem_cons_zero, Act.put, List.setIfInBounds_toArray, List.set_cons_zero, List.set_cons_succ]
                    refine Fx.skip (i := 12) rfl (by kernel_rfl) (by kernel_rfl) (by rfl) ?_
                    try simp only [List.getElem_toArray, List.getElem_cons_succ, List.getElem_cons_zero, Act.put, List.setIfInBounds_toArray, List.set_cons_zero, List.set_cons_succ]
                    refine Fx.skip (i := 13) rfl (by kernel_rfl) (by kernel_rfl) (by rfl) ?_
                    try simp only [List.getElem_toArray, List.getElem_cons_succ, List.getElem_cons_zero, Act.put, List.setIfInBounds_toArray, List.set_cons_zero, List.set_cons_succ]
                    refine Fx.skip (i := 14) rfl (by kernel_rfl) (by kernel_rfl) (by rfl) ?_
                    try simp only [List.getElem_toArray, List.getElem_cons_succ, List.getElem_cons_zero, Act.put, List.setIfInBounds_toArray, List.set_cons_zero, List.set_cons_succ]
                    refine Fx.take (i := 15) (v := ?_) _ rfl (by kernel_rfl) (by kernel_rfl) (by rfl) hSS ?_ ?_
                    rotate_left
                    · (intro w' hSw; (try dsimp only at hSw); go_simp; first | done | with_reducible rfl)
                    try simp only [List.getElem_toArray, List.getElem_cons_succ, List.getElem_cons_zero, Act.put, List.setIfInBounds_toArray, List.set_cons_zero, List.set_cons_succ]
                    refine Fx.done 0 (by kernel_rfl) (by kernel_rfl) (fun w4 hC => ?_)
                    have HN5 := Lib.hid (HEND.out w4 hC)
                    clear hC hSS HEND s0 c0 n0
                    go_wp2_with fail
                    go_roundw
                    case rel => exact ⟨i3 + 1, by omega, by go_num, HN5.out.1, HN5.out.2⟩
                    case measure => simp [intOf]; omega
                · have hge4 : (xs.length : Int) ≤ i3 := by omega
                  have HA5 := HA
                  have HB5 := HB
                  clear HA HB
                  go_wp2_with fail
                  go_roundw
                  case rel => exact ⟨k + 1, T, by omega, HTL.out, by go_num, HA5.out, HTM, HB5.out⟩
                  case measure => simp [intOf]; omega
        · have hge2 : (ys.length : Int) ≤ k := by omega
          have hfin := Lib.hid HA.out.md.below0
          clear HA HB HS
          go_wp2_with fail
          go_ret
          exact ⟨rfl, hfin.out⟩
end Go.Proofs.Ytceocpohdckkoaa.Ag
