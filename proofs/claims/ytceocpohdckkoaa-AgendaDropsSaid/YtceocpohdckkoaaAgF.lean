/- The law AgendaDrops. (Printed by mkAgF.py.) -/
import Derived.Test.YtceocpohdckkoaaAgE
namespace Go.Proofs.Ytceocpohdckkoaa.Ag
open Go.RowKit Mem
set_option linter.unusedSimpArgs false
set_option linter.unusedVariables false
set_option maxRecDepth 100000

/-- Which are gone. -/
def goneB (S : List It) (j : Nat) : Bool := decide (1 ≤ j) && !(hasI S (j : Int))
theorem hasI_wo (S : List It) (d j : Int) : hasI (woI S d) j = (hasI S j && !(j == d)) := by
  rw [Bool.eq_iff_iff, Bool.and_eq_true, hasI_iff, hasI_iff]
  unfold woI
  constructor
  · rintro ⟨s, hs, rfl⟩
    obtain ⟨h1, h2⟩ := List.mem_filter.1 hs
    exact ⟨⟨s, h1, rfl⟩, by simpa using h2⟩
  · rintro ⟨⟨s, hs, rfl⟩, h⟩
    exact ⟨s, List.mem_filter.2 ⟨hs, by simpa using h⟩, rfl⟩
theorem gone_wo {S : List It} {d : Nat} (h1 : 1 ≤ d) (j : Nat) : goneB (woI S (d : Int)) j = (goneB S j || j == d) := by
  unfold goneB
  rw [hasI_wo]
  by_cases e : j = d
  · subst e; simp; omega
  · have h2 : ((j : Int) == (d : Int)) = false := by rw [beq_eq_false_iff_ne]; omega
    have h3 : (j == d) = false := by rw [beq_eq_false_iff_ne]; exact e
    rw [h2, h3]; simp
def itemD (xs : List Int) (j : Nat) : It := (xs.getD j 0, (j : Int) + 1, (j : Int))
def cntK (xs : List Int) (S : List It) (now : Int) (i : Nat) : Nat := ((List.range i).filter fun j : Nat => hasI S ((j : Int) + 1) && decide (xs.getD j 0 ≤ now)).length
theorem cntK_succ (xs : List Int) (S : List It) (now : Int) (i : Nat) : cntK xs S now (i + 1) = cntK xs S now i + (if (hasI S ((i : Int) + 1) && decide (xs.getD i 0 ≤ now)) = true then 1 else 0) := by
  unfold cntK
  rw [List.range_succ, List.filter_append, List.length_append]
  congr 1
  rw [List.filter_cons]
  split <;> rfl
theorem cntK_le (xs : List Int) (S : List It) (now : Int) (i : Nat) : cntK xs S now i ≤ i := by
  unfold cntK
  exact Nat.le_trans (List.length_filter_le _ _) (by simp)
theorem nodup_of_ids {O : List It} {last : Int} (h : Ok O last) : O.Nodup := h.ids.imp (fun hne e => hne (by rw [e]))
theorem cnt_len {xs : List Int} {S : List It} {last now : Int} (ho : Ok S last) (hm : ∀ s ∈ S, ∃ j, j < xs.length ∧ s = itemD xs j) : (dueI S now).length = cntK xs S now xs.length := by
  have hd := due_filter ho now
  have h1 : (dueI S now).Nodup := nodup_of_ids (ho.sub (by unfold dueI; exact List.takeWhile_sublist _))
  have h2 : (((List.range xs.length).filter fun j : Nat => hasI S ((j : Int) + 1) && decide (xs.getD j 0 ≤ now)).map (itemD xs)).Nodup := by
    refine List.Pairwise.map (R := fun a b : Nat => a ≠ b) _ (fun a b hab e => hab ?_) ((List.nodup_range (n := xs.length)).filter _)
    have e2 : (a : Int) + 1 = (b : Int) + 1 := congrArg (fun s : It => s.2.1) e
    omega
  have hp := (List.perm_ext_iff_of_nodup h1 h2).2 (fun s => by
    rw [hd, List.mem_filter, List.mem_map]
    constructor
    · rintro ⟨hs, hn⟩
      obtain ⟨j, hj, rfl⟩ := hm s hs
      refine ⟨j, List.mem_filter.2 ⟨by simpa using hj, ?_⟩, rfl⟩
      rw [Bool.and_eq_true]
      exact ⟨hasI_iff.2 ⟨_, hs, rfl⟩, hn⟩
    · rintro ⟨j, hj, rfl⟩
      obtain ⟨h3, h4⟩ := List.mem_filter.1 hj
      rw [Bool.and_eq_true] at h4
      obtain ⟨s, hs, he⟩ := hasI_iff.1 h4.1
      obtain ⟨j2, _, rfl⟩ := hm s hs
      have : j2 = j := by
        have he : (j2 : Int) + 1 = (j : Int) + 1 := he
        omega
      subst this
      exact ⟨hs, h4.2⟩)
  rw [hp.length_eq, List.length_map]
  rfl

set_option maxHeartbeats 16000000 in
theorem agendaDrops_calls (w : World) (a : Value) (ha : Open.Rd w (.sl (.int .i64) 8) [a]) (b : Value) (hb : Open.Rd w (.sl (.int .i64) 8) [b]) (now : Int) (hnow : (Lit.int .i64 now).wf = true) :
    Calls Try.prog 7 #[a, b, .int .i64 now] w fun e w' => e = .returned (.bool true) ∧ Below w.heap.size w w' := by
  obtain ⟨xs, ad, acap, rfl, hal, hax, hac⟩ := ints_rd ha
  obtain ⟨ys, bd, bcap, rfl, hbl, hbx, hbc⟩ := ints_rd hb
  have AW := Lib.hid awake_calls
  have NW := Lib.hid (new_calls w)
  have HAC := Lib.hid hac
  have HBC := Lib.hid hbc
  have hal' : (xs.length : Int) ≤ 140737488351232 := by omega
  have hbl' : (ys.length : Int) ≤ 140737488351232 := by omega
  clear ha hax hac hb hbx hbc hnow
  by_cases hbig : 200 < xs.length ∨ 200 < ys.length
  · rcases (by omega : 200 < xs.length ∨ (xs.length ≤ 200 ∧ 200 < ys.length)) with hb1 | ⟨hb1, hb2⟩
    · have hb' : (200 : Int) < xs.length := by omega
      clear hbig
      go_enter Try.func7, Try.ntmps7
      go_wp2_with fail
      (with_reducible refine NW.out.mono ?_)
      rintro e w1 ⟨rfl, _, hm⟩
      have HM1 := Lib.hid hm
      clear hm NW
      go_wp2_with fail
      (with_reducible refine (AW.out _).mono ?_)
      rintro e w2 ⟨rfl, hm⟩
      have HM2 := Lib.hid (HM1.out.trans0 hm)
      clear hm HM1
      go_wp2_with fail
      (with_reducible refine (AW.out _).mono ?_)
      rintro e w3 ⟨rfl, hm⟩
      have HM3 := Lib.hid (HM2.out.trans0 hm)
      clear hm HM2
      go_wp2_with fail
      go_ret
      exact ⟨rfl, HM3.out.below0⟩
    · have hb' : (xs.length : Int) ≤ 200 := by omega
      have hb'' : (200 : Int) < ys.length := by omega
      clear hbig
      go_enter Try.func7, Try.ntmps7
      go_wp2_with fail
      (with_reducible refine NW.out.mono ?_)
      rintro e w1 ⟨rfl, _, hm⟩
      have HM1 := Lib.hid hm
      clear hm NW
      go_wp2_with fail
      (with_reducible refine (AW.out _).mono ?_)
      rintro e w2 ⟨rfl, hm⟩
      have HM2 := Lib.hid (HM1.out.trans0 hm)
      clear hm HM1
      go_wp2_with fail
      (with_reducible refine (AW.out _).mono ?_)
      rintro e w3 ⟨rfl, hm⟩
      have HM3 := Lib.hid (HM2.out.trans0 hm)
      clear hm HM2
      go_wp2_with fail
      go_ret
      exact ⟨rfl, HM3.out.below0⟩
  have hn1 : xs.length ≤ 200 := by omega
  have hb1 : (xs.length : Int) ≤ 200 := by omega
  have hb2 : (ys.length : Int) ≤ 200 := by omega
  obtain ⟨f, hf⟩ : ∃ f, f = fSort xs := ⟨_, rfl⟩
  have HF := Lib.hid hf
  have ADD := Lib.hid (fun (i : Nat) x (h : AgW w x w.heap.size (i : Int) (addK f i)) (hi : i < 200) => add_ok w x w.heap.size (i : Int) (addK f i) (f i).1 (f i).2 h ⟨by omega, by omega⟩ (by rw [addK_len]; omega))
  have MK := make_bools (xs.length + 1) (by omega)
  rw [show ((xs.length + 1 : Nat) : Int) = (xs.length : Int) + 1 by omega] at MK
  have hwn := IntWalk.i64_in ((xs.length : Int) + 1) (by omega)
  clear hf hbig
  go_enter Try.func7, Try.ntmps7
  go_wp2_with fail
  (with_reducible refine NW.out.mono ?_)
  rintro e w1 ⟨rfl, hag, hm⟩
  have H1 := Lib.hid hag
  clear hag hm NW
  go_wp2_with fail
  (with_reducible refine (AW.out _).mono ?_)
  rintro e w2 ⟨rfl, hm2⟩
  have H2 := Lib.hid ((H1.out.mod hm2).mod ((Mod.refl w2 []).alloc (.cells (bools (xs.length + 1) (fun _ => false)) 4)))
  have HB2 := Lib.hid (Blk.new w2 (bools (xs.length + 1) (fun _ => false)) 4)
  have hsbw : w.heap.size ≤ w2.heap.size := (H1.out.mod hm2).md.size
  clear hm2 H1 AW
  go_wp2_with fail
  obtain ⟨sb, hsb⟩ : ∃ sb, sb = w2.heap.size := ⟨_, rfl⟩
  rw [← hsb] at HB2 hsbw ⊢
  generalize w2.alloc _ = W at H2 HB2 ⊢
  clear hsb MK
  go_loopw [9] (fun vi wr => ∃ i : Nat, i ≤ xs.length ∧ vi = .int .i64 (i : Int) ∧ AgW w wr w.heap.size (i : Int) (addK f i) ∧ Blk wr sb (bools (xs.length + 1) (fun _ => false)) 4) (fun vi _ => xs.length + 1 - (intOf vi).toNat)
  case atStart => exact ⟨0, Nat.zero_le _, rfl, H2.out, HB2.out⟩
  case round =>
    obtain ⟨i, hi, rfl, hag, hbk⟩ := hrel
    have HA := Lib.hid hag
    have HB := Lib.hid hbk
    clear hag hbk H2 HB2
    by_cases hlt : i < xs.length
    · have hlt' : (i : Int) < xs.length := by omega
      have ADD1 := Lib.hid (ADD.out i wr HA.out (by omega))
      have h2 : (f i).2 = (i : Int) := by rw [HF.out]; rfl
      rw [h2] at ADD1
      have HN : Hid (insI (addK f i) ((f i).1, (i : Int) + 1, (i : Int)) = addK f (i + 1)) := Lib.hid (by show insI (addK f i) ((f i).1, (i : Int) + 1, (i : Int)) = insI (addK f i) ((f i).1, (i : Int) + 1, (f i).2); rw [h2])
      rw [HN.out] at ADD1
      obtain ⟨bb, off, rfl, hc⟩ := HAC.out.resolve_left (fun h => by rw [h] at hlt; simp at hlt)
      have c0 := keepC HA.out.md (hc i hlt)
      have h1 : (f i).1 = xs[i] := by rw [HF.out]; exact getD_eq hlt
      rw [h1] at ADD1
      clear hc h1 h2 HN
      generalize xs[i] = t at *
      go_wp2_with fail
      (with_reducible refine ADD1.out.mono ?_)
      rintro e w3 ⟨rfl, hag, hk⟩
      have HA3 := Lib.hid hag
      have HB3 := Lib.hid (hk _ _ _ (by decide) (by decide) HB.out)
      clear hag hk ADD1 c0
      go_wp2_with fail
      go_roundw
      case rel => exact ⟨i + 1, by omega, by go_num, by have h := HA3.out; exact_mod_cast h, HB3.out⟩
      case measure => simp [intOf]; omega
    · have hge : (xs.length : Int) ≤ i := by omega
      have hii : i = xs.length := by omega
      have H0 : Hid (∃ S, S.length ≤ xs.length ∧ AgW w wr w.heap.size (xs.length : Int) S ∧ (∀ s ∈ S, ∃ j, j < xs.length ∧ s = itemD xs j) ∧ Blk wr sb (bools (xs.length + 1) (goneB S)) 4) := Lib.hid (by
        refine ⟨addK f xs.length, by rw [addK_len]; omega, by have h := HA.out; rw [hii] at h; exact h, fun s hs => ?_, ?_⟩
        · obtain ⟨j, hj, rfl⟩ := (addK_mem f).1 hs
          exact ⟨j, hj, by rw [HF.out]; rfl⟩
        · have h := HB.out
          rw [bools_congr (d := goneB (addK f xs.length)) (fun j hj => by
            unfold goneB
            rw [addK_has]
            by_cases h1 : 1 ≤ j
            · rw [decide_eq_true h1, decide_eq_true (by omega)]; rfl
            · rw [decide_eq_false h1]; rfl)] at h
          exact h)
      clear HA HB ADD hii HF
      go_wp2_with fail
      obtain ⟨wo, rfl⟩ : ∃ wo : World, wo = wr := ⟨_, rfl⟩
      go_loopw [10] (fun vk wr => ∃ (k : Nat) (S : List It), k ≤ ys.length ∧ S.length ≤ xs.length ∧ vk = .int .i64 (k : Int) ∧ AgW w wr w.heap.size (xs.length : Int) S ∧ Hid (∀ s ∈ S, ∃ j, j < xs.length ∧ s = itemD xs j) ∧ Blk wr sb (bools (xs.length + 1) (goneB S)) 4) (fun vk _ => ys.length + 1 - (intOf vk).toNat)
      case atStart =>
        obtain ⟨S, q0, q1, q2, q3⟩ := H0.out
        exact ⟨0, S, Nat.zero_le _, q0, rfl, q1, Lib.hid q2, q3⟩
      case round =>
        obtain ⟨k, S, hk, hSl, rfl, hag, HS, hbk⟩ := hrel
        have HA := Lib.hid hag
        have HB := Lib.hid hbk
        clear hag hbk H0
        by_cases hlt2 : k < ys.length
        · have hlt2' : (k : Int) < ys.length := by omega
          obtain ⟨yb, yoff, rfl, hyc⟩ := HBC.out.resolve_left (fun h => by rw [h] at hlt2; simp at hlt2)
          have n0 := keepC HA.out.md (hyc k hlt2)
          have DR := Lib.hid (drop_calls w wr w.heap.size (xs.length : Int) S (ys[k]) HA.out (by omega))
          unfold DropP at DR
          have HIDS : Hid (∀ x : Int, hasI S x = true → 1 ≤ x ∧ x ≤ xs.length) := Lib.hid (fun x hx => by
            obtain ⟨s, hs, rfl⟩ := hasI_iff.1 hx
            obtain ⟨j, hj, rfl⟩ := HS.out s hs
            show 1 ≤ (j : Int) + 1 ∧ (j : Int) + 1 ≤ xs.length
            omega)
          clear hyc
          generalize ys[k] = d at *
          have HNOT : Hid (hasI S d = false → ∀ w3, AgW w w3 w.heap.size (xs.length : Int) (woI S d) ∧ Keep wr w3 → AgW w w3 w.heap.size (xs.length : Int) S ∧ Blk w3 sb (bools (xs.length + 1) (goneB S)) 4) := Lib.hid (fun h w3 hq => by
            rw [wo_not h] at hq
            exact ⟨hq.1, hq.2 _ _ _ (by decide) (by decide) HB.out⟩)
          by_cases hin : 1 ≤ d ∧ d ≤ (xs.length : Int)
          · obtain ⟨e, rfl⟩ : ∃ e : Nat, d = (e : Int) := ⟨d.toNat, by omega⟩
            obtain ⟨d1, d2⟩ := hin
            have d1n : 1 ≤ e := by omega
            have d2n : e < xs.length + 1 := by omega
            have d2n' : e ≤ xs.length := by omega
            have s0 : wr.cell? ⟨sb, e, none⟩ = some (.bool (goneB S e)) := by rw [HB.out.cell, bools_get d2n]
            have hge1 : goneB S e = !(hasI S (e : Int)) := by unfold goneB; rw [decide_eq_true d1n]; rfl
            rw [hge1] at s0
            cases hh : hasI S (e : Int) with
            | true =>
              rw [hh] at s0 DR
              simp only [Bool.not_true] at s0
              have HYES : Hid (∀ w3, AgW w w3 w.heap.size (xs.length : Int) (woI S (e : Int)) ∧ Keep wr w3 → AgW w (w3.setCell ⟨sb, e, none⟩ (.bool true)) w.heap.size (xs.length : Int) (woI S (e : Int)) ∧ Blk (w3.setCell ⟨sb, e, none⟩ (.bool true)) sb (bools (xs.length + 1) (goneB (woI S (e : Int)))) 4 ∧ w3.cell? ⟨sb, e, none⟩ = some (.bool false) ∧ w3.frozen? ⟨sb, e, none⟩ = false ∧ sb < w3.heap.size) := Lib.hid (fun w3 hq => by
                have hb3 := hq.2 _ _ _ (by decide) (by decide) HB.out
                refine ⟨hq.1.far hb3 (by decide) (by decide) hsbw, ?_, by rw [hb3.cell, bools_get d2n, hge1, hh]; rfl, hb3.free e, hb3.lt⟩
                have hs := hb3.set e (.bool true)
                rw [bools_set, bools_congr (d := goneB (woI S (e : Int))) (fun j _ => (gone_wo d1n j).symm)] at hs
                exact hs)
              clear hge1 hh HNOT HIDS HA HB
              go_wp2_with fail
              (with_reducible refine DR.out.mono ?_)
              rintro e1 w3 ⟨rfl, hq⟩
              obtain ⟨r1, r2, r3, r4, r5⟩ := HYES.out w3 hq
              have R1 := Lib.hid r1
              have R2 := Lib.hid r2
              clear hq HYES DR r1 r2 s0 n0
              go_wp2_with fail
              go_roundw
              case rel => exact ⟨k + 1, woI S (e : Int), by omega, Nat.le_trans (List.length_filter_le _ _) hSl, by go_num, R1.out, Lib.hid (fun s hs => HS.out s (List.mem_filter.1 hs).1), R2.out⟩
              case measure => simp [intOf]; omega
            | false =>
              have HN2 := Lib.hid (HNOT.out hh)
              rw [hh] at s0 DR
              simp only [Bool.not_false] at s0
              clear hge1 hh HNOT HIDS HA HB
              go_wp2_with fail
              (with_reducible refine DR.out.mono ?_)
              rintro e1 w3 ⟨rfl, hq⟩
              have R := Lib.hid (HN2.out w3 hq)
              clear hq HN2 DR s0 n0
              go_wp2_with fail
              go_roundw
              case rel => exact ⟨k + 1, S, by omega, hSl, by go_num, R.out.1, HS, R.out.2⟩
              case measure => simp [intOf]; omega
          · have hh : hasI S d = false := by
              cases hh : hasI S d with
              | false => rfl
              | true => exact absurd (HIDS.out d hh) hin
            have HN2 := Lib.hid (HNOT.out hh)
            rw [hh] at DR
            rcases (by omega : d < 1 ∨ (1 ≤ d ∧ (xs.length : Int) < d)) with k1 | ⟨k1, k2⟩
            all_goals
              clear hh HNOT HIDS HA HB hin
              go_wp2_with fail
              (with_reducible refine DR.out.mono ?_)
              rintro e1 w3 ⟨rfl, hq⟩
              have R := Lib.hid (HN2.out w3 hq)
              clear hq HN2 DR n0
              go_wp2_with fail
              go_roundw
              case rel => exact ⟨k + 1, S, by omega, hSl, by go_num, R.out.1, HS, R.out.2⟩
              case measure => simp [intOf]; omega
        · have hge2 : (ys.length : Int) ≤ k := by omega
          have HA0 := HA
          have HB0 := HB
          clear HA HB
          go_wp2_with fail
          obtain ⟨wk, rfl⟩ : ∃ wk : World, wk = wr := ⟨_, rfl⟩
          go_loopw [13, 14] (fun vc vi wr => ∃ i : Nat, i ≤ xs.length ∧ vc = .int .i64 (cntK xs S now i : Int) ∧ vi = .int .i64 (i : Int) ∧ AgW w wr w.heap.size (xs.length : Int) S ∧ Blk wr sb (bools (xs.length + 1) (goneB S)) 4) (fun _ vi _ => xs.length + 1 - (intOf vi).toNat)
          case atStart => exact ⟨0, Nat.zero_le _, by simp [cntK], rfl, HA0.out, HB0.out⟩
          case round =>
            obtain ⟨i3, hi3, rfl, rfl, hag, hbk⟩ := hrel
            have HA := Lib.hid hag
            have HB := Lib.hid hbk
            clear hag hbk HA0 HB0
            by_cases hlt3 : i3 < xs.length
            · have hlt3' : (i3 : Int) < xs.length := by omega
              have hcl := cntK_le xs S now i3
              have HCS := Lib.hid (cntK_succ xs S now i3)
              rw [getD_eq hlt3] at HCS
              obtain ⟨bb, off, rfl, hc⟩ := HAC.out.resolve_left (fun h => by rw [h] at hlt3; simp at hlt3)
              have c0 := keepC HA.out.md (hc i3 hlt3)
              have s0 : wr.cell? ⟨sb, i3 + 1, none⟩ = some (.bool (!(hasI S ((i3 : Int) + 1)))) := by
                rw [HB.out.cell, bools_get (by omega)]
                unfold goneB
                rw [decide_eq_true (by omega), show ((i3 + 1 : Nat) : Int) = (i3 : Int) + 1 by omega]; rfl
              have hwi := IntWalk.i64_in ((i3 : Int) + 1) (by omega)
              have hi31 : i3 + 1 < xs.length + 1 := by omega
              clear hc
              generalize xs[i3] = t at *
              generalize cntK xs S now i3 = c at *
              have hwc := IntWalk.i64_in ((c : Int) + 1) (by omega)
              cases hh : hasI S ((i3 : Int) + 1) with
              | false =>
                rw [hh] at s0 HCS
                simp only [Bool.not_false] at s0
                have hr : Hid (cntK xs S now (i3 + 1) = c) := Lib.hid (by rw [HCS.out]; simp)
                clear hh HCS
                go_wp2_with fail
                go_roundw
                case rel => exact ⟨i3 + 1, by omega, by rw [hr.out], by go_num, HA.out, HB.out⟩
                case measure => simp [intOf]; omega
              | true =>
                rw [hh] at s0 HCS
                simp only [Bool.not_true] at s0
                by_cases htn : t ≤ now
                · have hr : Hid (cntK xs S now (i3 + 1) = c + 1) := Lib.hid (by rw [HCS.out, decide_eq_true htn]; rfl)
                  clear hh HCS
                  go_wp2_with fail
                  go_roundw
                  case rel => exact ⟨i3 + 1, by omega, by rw [hr.out]; go_num, by go_num, HA.out, HB.out⟩
                  case measure => simp [intOf]; omega
                · have htn' : now < t := by omega
                  have hr : Hid (cntK xs S now (i3 + 1) = c) := Lib.hid (by rw [HCS.out, decide_eq_false htn]; rfl)
                  clear hh HCS
                  go_wp2_with fail
                  go_roundw
                  case rel => exact ⟨i3 + 1, by omega, by rw [hr.out], by go_num, HA.out, HB.out⟩
                  case measure => simp [intOf]; omega
            · have hge3 : (xs.length : Int) ≤ i3 := by omega
              have hi3e : i3 = xs.length := by omega
              have HOK := Lib.hid HA.out.ok
              have HCN : Hid ((dueI S now).length = cntK xs S now i3) := Lib.hid (by rw [hi3e]; exact cnt_len HOK.out HS.out)
              have DU := Lib.hid (due_calls w wr w.heap.size (xs.length : Int) S now HA.out (by omega))
              unfold DueP at DU
              obtain ⟨O, hO⟩ : ∃ O, O = dueI S now := ⟨_, rfl⟩
              have HOM : Hid (∀ s ∈ O, s ∈ S ∧ s.1 ≤ now) := Lib.hid (fun s hs => dueI_mem (by rw [hO] at hs; exact hs))
              have HOO : Hid (Ok O (xs.length : Int)) := Lib.hid (HOK.out.sub (by rw [hO]; exact List.takeWhile_sublist _))
              have hOS : O.length ≤ S.length := by rw [hO]; exact (List.takeWhile_sublist _).length_le
              rw [← hO] at DU HCN
              generalize cntK xs S now i3 = c at *
              clear hO hi3e
              go_wp2_with fail
              (with_reducible refine DU.out.mono ?_)
              rintro e w3 ⟨v, rfl, hag, hit, hkp⟩
              have HA3 := Lib.hid hag.md
              have HI3 := Lib.hid hit
              have HB3 := Lib.hid (hkp _ _ _ (by decide) (by decide) HB.out)
              obtain ⟨va, vc, rfl⟩ := Rw.own_slice hit
              obtain ⟨base, hbase⟩ : ∃ base, base = wr.heap.size := ⟨_, rfl⟩
              rw [← hbase] at HI3
              clear hag hit hkp DU HA HB hbase
              go_wp2_with fail
              obtain ⟨wm, rfl⟩ : ∃ wm : World, wm = wr := ⟨_, rfl⟩
              have hOl : (O.length : Int) ≤ 200 := by omega
              go_loopw [16] (fun vi wr => ∃ i : Nat, i ≤ O.length ∧ vi = .int .i64 (i : Int) ∧ Mod w wr [] ∧ ItAt wr base (.slice va O.length vc) O ∧ Blk wr sb (bools (xs.length + 1) (goneB S)) 4) (fun vi _ => O.length + 1 - (intOf vi).toNat)
              case atStart => exact ⟨0, Nat.zero_le _, rfl, HA3.out, HI3.out, HB3.out⟩
              case round =>
                obtain ⟨i4, hi4, rfl, hmd, hit, hbk⟩ := hrel
                have HM := Lib.hid hmd
                have HI := Lib.hid hit
                have HB := Lib.hid hbk
                clear hmd hit hbk HA3 HI3 HB3
                by_cases hlt4 : i4 < O.length
                · have hlt4' : (i4 : Int) < O.length := by omega
                  obtain ⟨hxS, hxn⟩ := HOM.out O[i4] (List.getElem_mem hlt4)
                  obtain ⟨j, hj, hxe⟩ := HS.out O[i4] hxS
                  have hj' : (j : Int) < xs.length := by omega
                  have hgone : goneB S (j + 1) = false := by
                    unfold goneB
                    have h1 : hasI S ((j + 1 : Nat) : Int) = true := hasI_iff.2 ⟨O[i4], hxS, by rw [hxe]; show (j : Int) + 1 = ((j + 1 : Nat) : Int); omega⟩
                    rw [h1]; simp
                  obtain ⟨bb, off, rfl, hc⟩ := HAC.out.resolve_left (fun h => by rw [h] at hj; simp at hj)
                  have c0 := keepC HM.out (hc j hj)
                  rcases HI.out.shape with ⟨_, h0⟩ | ⟨ob, cap, hv, _, _, _, hobl, _, h4⟩
                  · rw [h0] at hlt4; simp at hlt4
                  · injection hv with q1 q2 q3
                    subst q1 q3
                    obtain ⟨e0, e1, e2⟩ := h4 i4 hlt4
                    have hxe2 : O[i4] = (xs[j], (j : Int) + 1, (j : Int)) := by rw [hxe]; unfold itemD; rw [getD_eq hj]
                    rw [hxe2] at e0 e1 e2 hxn
                    simp only at e0 e1 e2 hxn
                    have HPRE : Hid (∀ m (hm : m + 1 = i4), ∃ p1 p2, (∀ w', Mod wr w' [] → w'.cell? ⟨ob, m * 3, none⟩ = some (.int .i64 p1) ∧ w'.cell? ⟨ob, m * 3 + 1, none⟩ = some (.int .i64 p2)) ∧ (p1 < xs[j] ∨ p1 = xs[j] ∧ p2 < (j : Int) + 1)) := Lib.hid (fun m hm => by
                      obtain ⟨d0, d1, d2⟩ := h4 m (by omega)
                      refine ⟨_, _, fun w' m' => ⟨keepC m' d0, keepC m' d1⟩, ?_⟩
                      have hp := List.pairwise_iff_getElem.1 HOO.out.srt m i4 (by omega) hlt4 (by omega)
                      rw [hxe2, soon_iff] at hp
                      exact hp)
                    have s0 : wr.cell? ⟨sb, j + 1, none⟩ = some (.bool false) := by rw [HB.out.cell, bools_get (by omega), hgone]
                    have hsl := HB.out.lt
                    have hbl3 : bb < wr.heap.size := Rw.cell_lt c0
                    clear q2 h4 hc hxe hxe2 hgone hxS
                    generalize xs[j] = t at *
                    have hmx := (Mod.refl wr []).alloc (.cells #[.int .i64 t, .int .i64 ((j : Int) + 1), .int .i64 (j : Int)] 47)
                    have HX := Lib.hid (Blk.new wr #[.int .i64 t, .int .i64 ((j : Int) + 1), .int .i64 (j : Int)] 47)
                    have HMX := Lib.hid hmx
                    have HEND : Hid (∀ w4, Mod wr w4 [] → Mod w w4 [] ∧ ItAt w4 base (.slice (some ⟨ob, 0, none⟩) O.length vc) O ∧ Blk w4 sb (bools (xs.length + 1) (goneB S)) 4) := Lib.hid (fun w4 hC => ⟨HM.out.trans0 hC, HI.out.mod hC (by simp), HB.out.mod hC (by simp)⟩)
                    have hd0 : decide ((j : Int) + 1 < 1) = false := decide_eq_false (by omega)
                    have hd00 : decide ((j : Int) < 0) = false := decide_eq_false (by omega)
                    have hd1 : decide ((xs.length : Int) < (j : Int) + 1) = false := decide_eq_false (by omega)
                    have hd11 : decide ((xs.length : Int) ≤ (j : Int)) = false := decide_eq_false (by omega)
                    have hd12 : decide (xs.length ≤ j) = false := decide_eq_false (by omega)
                    have hd13 : decide (xs.length < j + 1) = false := decide_eq_false (by omega)
                    have hd2 : decide (now < t) = false := decide_eq_false (by omega)
                    have hd3 : (t != t) = false := by simp
                    have hwj := IntWalk.i64_in (j : Int) (by omega)
                    have hj1 : j + 1 < xs.length + 1 := by omega
                    have hnn : (0 : Int) ≤ (j : Int) + 1 := by omega
                    clear hmx HM HI HB
                    go_wp2_with fail
                    obtain ⟨xb, hxb⟩ : ∃ xb, xb = wr.heap.size := ⟨_, rfl⟩
                    rw [← hxb] at HX ⊢
                    obtain ⟨W2, hW2⟩ : ∃ W2, W2 = wr.alloc (.cells #[.int .i64 t, .int .i64 ((j : Int) + 1), .int .i64 (j : Int)] 47) := ⟨_, rfl⟩
                    rw [← hW2] at HX HMX ⊢
                    clear hW2 hxb
                    have x0 := HX.out.cell 0
                    have x1 := HX.out.cell 1
                    have c0 := keepC HMX.out c0
                    have s0 := keepC HMX.out s0
                    rcases i4 with _ | m
                    · refine Fx.wp_region_f [] (fun _ w' => Mod W2 w' []) (by kernel_rfl) (by decide) (Mod.refl _ _).drew ?_
                      have hSS : ∀ (m' : Nat) w', Mod W2 w' [] → _ := fun m' w' h => (⟨keepC h x0, keepC h x1, keepC h c0, keepC h s0⟩ : _ ∧ _ ∧ _ ∧ _)
                      simp only [List.append_eq, List.cons_append, List.nil_append]
                      refine Fx.take (i := 0) (v := ?_) _ rfl (by kernel_rfl) (by kernel_rfl) (by kernel_rfl) hSS ?_ ?_
                      rotate_left
                      · (intro w' hSw; (try dsimp only at hSw); go_simp; first | done | with_reducible rfl)
                      try simp (maxSteps := 100000000) only [List.getElem_toArray, List.getElem_cons_succ, List.getElem_cons_zero, Act.put, List.setIfInBounds_toArray, List.set_cons_zero, List.set_cons_succ]
                      refine Fx.take (i := 1) (v := ?_) _ rfl (by kernel_rfl) (by kernel_rfl) (by kernel_rfl) hSS ?_ ?_
                      rotate_left
                      · (intro w' hSw; (try dsimp only at hSw); go_simp; first | done | with_reducible rfl)
                      try simp (maxSteps := 100000000) only [List.getElem_toArray, List.getElem_cons_succ, List.getElem_cons_zero, Act.put, List.setIfInBounds_toArray, List.set_cons_zero, List.set_cons_succ]
                      refine Fx.take (i := 2) (v := ?_) _ rfl (by kernel_rfl) (by kernel_rfl) (by kernel_rfl) hSS ?_ ?_
                      rotate_left
                      · (intro w' hSw; (try dsimp only at hSw); go_simp; first | done | with_reducible rfl)
                      try simp (maxSteps := 100000000) only [List.getElem_toArray, List.getElem_cons_succ, List.getElem_cons_zero, Act.put, List.setIfInBounds_toArray, List.set_cons_zero, List.set_cons_succ]
                      refine Fx.take (i := 3) (v := ?_) _ rfl (by kernel_rfl) (by kernel_rfl) (by kernel_rfl) hSS ?_ ?_
                      rotate_left
                      · (intro w' hSw; (try dsimp only at hSw); go_simp; first | done | with_reducible rfl)
                      try simp (maxSteps := 100000000) only [List.getElem_toArray, List.getElem_cons_succ, List.getElem_cons_zero, Act.put, List.setIfInBounds_toArray, List.set_cons_zero, List.set_cons_succ]
                      refine Fx.take (i := 4) (v := ?_) _ rfl (by kernel_rfl) (by kernel_rfl) (by kernel_rfl) hSS ?_ ?_
                      rotate_left
                      · (intro w' hSw; (try dsimp only at hSw); go_simp; first | done | with_reducible rfl)
                      try simp (maxSteps := 100000000) only [List.getElem_toArray, List.getElem_cons_succ, List.getElem_cons_zero, Act.put, List.setIfInBounds_toArray, List.set_cons_zero, List.set_cons_succ]
                      refine Fx.take (i := 5) (v := ?_) _ rfl (by kernel_rfl) (by kernel_rfl) (by kernel_rfl) hSS ?_ ?_
                      rotate_left
                      · (intro w' hSw; (try dsimp only at hSw); go_simp; first | done | with_reducible rfl)
                      try simp (maxSteps := 100000000) only [List.getElem_toArray, List.getElem_cons_succ, List.getElem_cons_zero, Act.put, List.setIfInBounds_toArray, List.set_cons_zero, List.set_cons_succ]
                      refine Fx.take (i := 6) (v := ?_) _ rfl (by kernel_rfl) (by kernel_rfl) (by kernel_rfl) hSS ?_ ?_
                      rotate_left
                      · (intro w' hSw; (try dsimp only at hSw); go_simp; first | done | with_reducible rfl)
                      try simp (maxSteps := 100000000) only [List.getElem_toArray, List.getElem_cons_succ, List.getElem_cons_zero, Act.put, List.setIfInBounds_toArray, List.set_cons_zero, List.set_cons_succ]
                      refine Fx.take (i := 7) (v := ?_) _ rfl (by kernel_rfl) (by kernel_rfl) (by kernel_rfl) hSS ?_ ?_
                      rotate_left
                      · (intro w' hSw; (try dsimp only at hSw); go_simp; first | done | with_reducible rfl)
                      try simp (maxSteps := 100000000) only [List.getElem_toArray, List.getElem_cons_succ, List.getElem_cons_zero, Act.put, List.setIfInBounds_toArray, List.set_cons_zero, List.set_cons_succ]
                      refine Fx.take (i := 8) (v := ?_) _ rfl (by kernel_rfl) (by kernel_rfl) (by kernel_rfl) hSS ?_ ?_
                      rotate_left
                      · (intro w' hSw; (try dsimp only at hSw); go_simp; first | done | with_reducible rfl)
                      try simp (maxSteps := 100000000) only [List.getElem_toArray, List.getElem_cons_succ, List.getElem_cons_zero, Act.put, List.setIfInBounds_toArray, List.set_cons_zero, List.set_cons_succ]
                      refine Fx.take (i := 9) (v := ?_) _ rfl (by kernel_rfl) (by kernel_rfl) (by kernel_rfl) hSS ?_ ?_
                      rotate_left
                      · (intro w' hSw; (try dsimp only at hSw); go_simp; first | done | with_reducible rfl)
                      try simp (maxSteps := 100000000) only [List.getElem_toArray, List.getElem_cons_succ, List.getElem_cons_zero, Act.put, List.setIfInBounds_toArray, List.set_cons_zero, List.set_cons_succ]
                      refine Fx.take (i := 10) (v := ?_) _ rfl (by kernel_rfl) (by kernel_rfl) (by kernel_rfl) hSS ?_ ?_
                      rotate_left
                      · (intro w' hSw; (try dsimp only at hSw); go_simp; first | done | with_reducible rfl)
                      try simp (maxSteps := 100000000) only [List.getElem_toArray, List.getElem_cons_succ, List.getElem_cons_zero, Act.put, List.setIfInBounds_toArray, List.set_cons_zero, List.set_cons_succ]
                      refine Fx.take (i := 11) (v := ?_) _ rfl (by kernel_rfl) (by kernel_rfl) (by kernel_rfl) hSS ?_ ?_
                      rotate_left
                      · (intro w' hSw; (try dsimp only at hSw); go_simp; first | done | with_reducible rfl)
                      try simp (maxSteps := 100000000) only [List.getElem_toArray, List.getElem_cons_succ, List.getElem_cons_zero, Act.put, List.setIfInBounds_toArray, List.set_cons_zero, List.set_cons_succ]
                      refine Fx.take (i := 12) (v := ?_) _ rfl (by kernel_rfl) (by kernel_rfl) (by kernel_rfl) hSS ?_ ?_
                      rotate_left
                      · (intro w' hSw; (try dsimp only at hSw); go_simp; first | done | with_reducible rfl)
                      try simp (maxSteps := 100000000) only [List.getElem_toArray, List.getElem_cons_succ, List.getElem_cons_zero, Act.put, List.setIfInBounds_toArray, List.set_cons_zero, List.set_cons_succ]
                      refine Fx.take (i := 13) (v := ?_) _ rfl (by kernel_rfl) (by kernel_rfl) (by kernel_rfl) hSS ?_ ?_
                      rotate_left
                      · (intro w' hSw; (try dsimp only at hSw); go_simp; first | done | with_reducible rfl)
                      try simp (maxSteps := 100000000) only [List.getElem_toArray, List.getElem_cons_succ, List.getElem_cons_zero, Act.put, List.setIfInBounds_toArray, List.set_cons_zero, List.set_cons_succ]
                      refine Fx.take (i := 14) (v := ?_) _ rfl (by kernel_rfl) (by kernel_rfl) (by kernel_rfl) hSS ?_ ?_
                      rotate_left
                      · (intro w' hSw; (try dsimp only at hSw); go_simp; first | done | with_reducible rfl)
                      try simp (maxSteps := 100000000) only [List.getElem_toArray, List.getElem_cons_succ, List.getElem_cons_zero, Act.put, List.setIfInBounds_toArray, List.set_cons_zero, List.set_cons_succ]
                      refine Fx.take (i := 15) (v := ?_) _ rfl (by kernel_rfl) (by kernel_rfl) (by kernel_rfl) hSS ?_ ?_
                      rotate_left
                      · (intro w' hSw; (try dsimp only at hSw); go_simp; first | done | with_reducible rfl)
                      try simp (maxSteps := 100000000) only [List.getElem_toArray, List.getElem_cons_succ, List.getElem_cons_zero, Act.put, List.setIfInBounds_toArray, List.set_cons_zero, List.set_cons_succ]
                      refine Fx.take (i := 16) (v := ?_) _ rfl (by kernel_rfl) (by kernel_rfl) (by kernel_rfl) hSS ?_ ?_
                      rotate_left
                      · (intro w' hSw; (try dsimp only at hSw); go_simp; first | done | with_reducible rfl)
                      try simp (maxSteps := 100000000) only [List.getElem_toArray, List.getElem_cons_succ, List.getElem_cons_zero, Act.put, List.setIfInBounds_toArray, List.set_cons_zero, List.set_cons_succ]
                      refine Fx.take (i := 17) (v := ?_) _ rfl (by kernel_rfl) (by kernel_rfl) (by kernel_rfl) hSS ?_ ?_
                      rotate_left
                      · (intro w' hSw; (try dsimp only at hSw); go_simp; first | done | with_reducible rfl)
                      try simp (maxSteps := 100000000) only [List.getElem_toArray, List.getElem_cons_succ, List.getElem_cons_zero, Act.put, List.setIfInBounds_toArray, List.set_cons_zero, List.set_cons_succ]
                      refine Fx.take (i := 18) (v := ?_) _ rfl (by kernel_rfl) (by kernel_rfl) (by kernel_rfl) hSS ?_ ?_
                      rotate_left
                      · (intro w' hSw; (try dsimp only at hSw); go_simp; first | done | with_reducible rfl)
                      try simp (maxSteps := 100000000) only [List.getElem_toArray, List.getElem_cons_succ, List.getElem_cons_zero, Act.put, List.setIfInBounds_toArray, List.set_cons_zero, List.set_cons_succ]
                      refine Fx.take (i := 19) (v := ?_) _ rfl (by kernel_rfl) (by kernel_rfl) (by kernel_rfl) hSS ?_ ?_
                      rotate_left
                      · (intro w' hSw; (try dsimp only at hSw); go_simp; first | done | with_reducible rfl)
                      try simp (maxSteps := 100000000) only [List.getElem_toArray, List.getElem_cons_succ, List.getElem_cons_zero, Act.put, List.setIfInBounds_toArray, List.set_cons_zero, List.set_cons_succ]
                      refine Fx.take (i := 20) (v := ?_) _ rfl (by kernel_rfl) (by kernel_rfl) (by kernel_rfl) hSS ?_ ?_
                      rotate_left
                      · (intro w' hSw; (try dsimp only at hSw); go_simp; first | done | with_reducible rfl)
                      try simp (maxSteps := 100000000) only [List.getElem_toArray, List.getElem_cons_succ, List.getElem_cons_zero, Act.put, List.setIfInBounds_toArray, List.set_cons_zero, List.set_cons_succ]
                      refine Fx.take (i := 21) (v := ?_) _ rfl (by kernel_rfl) (by kernel_rfl) (by kernel_rfl) hSS ?_ ?_
                      rotate_left
                      · (intro w' hSw; (try dsimp only at hSw); go_simp; first | done | with_reducible rfl)
                      try simp (maxSteps := 100000000) only [List.getElem_toArray, List.getElem_cons_succ, List.getElem_cons_zero, Act.put, List.setIfInBounds_toArray, List.set_cons_zero, List.set_cons_succ]
                      refine Fx.take (i := 22) (v := ?_) _ rfl (by kernel_rfl) (by kernel_rfl) (by kernel_rfl) hSS ?_ ?_
                      rotate_left
                      · (intro w' hSw; (try dsimp only at hSw); go_simp; first | done | with_reducible rfl)
                      try simp (maxSteps := 100000000) only [List.getElem_toArray, List.getElem_cons_succ, List.getElem_cons_zero, Act.put, List.setIfInBounds_toArray, List.set_cons_zero, List.set_cons_succ]
                      refine Fx.take (i := 23) (v := ?_) _ rfl (by kernel_rfl) (by kernel_rfl) (by kernel_rfl) hSS ?_ ?_
                      rotate_left
                      · (intro w' hSw; (try dsimp only at hSw); go_simp; first | done | with_reducible rfl)
                      try simp (maxSteps := 100000000) only [List.getElem_toArray, List.getElem_cons_succ, List.getElem_cons_zero, Act.put, List.setIfInBounds_toArray, List.set_cons_zero, List.set_cons_succ]
                      refine Fx.take (i := 24) (v := ?_) _ rfl (by kernel_rfl) (by kernel_rfl) (by kernel_rfl) hSS ?_ ?_
                      rotate_left
                      · (intro w' hSw; (try dsimp only at hSw); go_simp; first | done | with_reducible rfl)
                      try simp (maxSteps := 100000000) only [List.getElem_toArray, List.getElem_cons_succ, List.getElem_cons_zero, Act.put, List.setIfInBounds_toArray, List.set_cons_zero, List.set_cons_succ]
                      refine Fx.take (i := 25) (v := ?_) _ rfl (by kernel_rfl) (by kernel_rfl) (by kernel_rfl) hSS ?_ ?_
                      rotate_left
                      · (intro w' hSw; (try dsimp only at hSw); go_simp; first | done | with_reducible rfl)
                      try simp (maxSteps := 100000000) only [List.getElem_toArray, List.getElem_cons_succ, List.getElem_cons_zero, Act.put, List.setIfInBounds_toArray, List.set_cons_zero, List.set_cons_succ]
                      refine Fx.take (i := 26) (v := ?_) _ rfl (by kernel_rfl) (by kernel_rfl) (by kernel_rfl) hSS ?_ ?_
                      rotate_left
                      · (intro w' hSw; (try dsimp only at hSw); go_simp; first | done | with_reducible rfl)
                      try simp (maxSteps := 100000000) only [List.getElem_toArray, List.getElem_cons_succ, List.getElem_cons_zero, Act.put, List.setIfInBounds_toArray, List.set_cons_zero, List.set_cons_succ]
                      refine Fx.take (i := 27) (v := ?_) _ rfl (by kernel_rfl) (by kernel_rfl) (by kernel_rfl) hSS ?_ ?_
                      rotate_left
                      · (intro w' hSw; (try dsimp only at hSw); go_simp; first | done | with_reducible rfl)
                      try simp (maxSteps := 100000000) only [List.getElem_toArray, List.getElem_cons_succ, List.getElem_cons_zero, Act.put, List.setIfInBounds_toArray, List.set_cons_zero, List.set_cons_succ]
                      refine Fx.take (i := 28) (v := ?_) _ rfl (by kernel_rfl) (by kernel_rfl) (by kernel_rfl) hSS ?_ ?_
                      rotate_left
                      · (intro w' hSw; (try dsimp only at hSw); go_simp; first | done | with_reducible rfl)
                      try simp (maxSteps := 100000000) only [List.getElem_toArray, List.getElem_cons_succ, List.getElem_cons_zero, Act.put, List.setIfInBounds_toArray, List.set_cons_zero, List.set_cons_succ]
                      refine Fx.take (i := 29) (v := ?_) _ rfl (by kernel_rfl) (by kernel_rfl) (by kernel_rfl) hSS ?_ ?_
                      rotate_left
                      · (intro w' hSw; (try dsimp only at hSw); go_simp; first | done | with_reducible rfl)
                      try simp (maxSteps := 100000000) only [List.getElem_toArray, List.getElem_cons_succ, List.getElem_cons_zero, Act.put, List.setIfInBounds_toArray, List.set_cons_zero, List.set_cons_succ]
                      refine Fx.take (i := 30) (v := ?_) _ rfl (by kernel_rfl) (by kernel_rfl) (by kernel_rfl) hSS ?_ ?_
                      rotate_left
                      · (intro w' hSw; (try dsimp only at hSw); go_simp; first | done | with_reducible rfl)
                      try simp (maxSteps := 100000000) only [List.getElem_toArray, List.getElem_cons_succ, List.getElem_cons_zero, Act.put, List.setIfInBounds_toArray, List.set_cons_zero, List.set_cons_succ]
                      refine Fx.take (i := 31) (v := ?_) _ rfl (by kernel_rfl) (by kernel_rfl) (by kernel_rfl) hSS ?_ ?_
                      rotate_left
                      · (intro w' hSw; (try dsimp only at hSw); go_simp; first | done | with_reducible rfl)
                      try simp (maxSteps := 100000000) only [List.getElem_toArray, List.getElem_cons_succ, List.getElem_cons_zero, Act.put, List.setIfInBounds_toArray, List.set_cons_zero, List.set_cons_succ]
                      refine Fx.take (i := 32) (v := ?_) _ rfl (by kernel_rfl) (by kernel_rfl) (by kernel_rfl) hSS ?_ ?_
                      rotate_left
                      · (intro w' hSw; (try dsimp only at hSw); go_simp; first | done | with_reducible rfl)
                      try simp (maxSteps := 100000000) only [List.getElem_toArray, List.getElem_cons_succ, List.getElem_cons_zero, Act.put, List.setIfInBounds_toArray, List.set_cons_zero, List.set_cons_succ]
                      refine Fx.take (i := 33) (v := ?_) _ rfl (by kernel_rfl) (by kernel_rfl) (by kernel_rfl) hSS ?_ ?_
                      rotate_left
                      · (intro w' hSw; (try dsimp only at hSw); go_simp; first | done | with_reducible rfl)
                      try simp (maxSteps := 100000000) only [List.getElem_toArray, List.getElem_cons_succ, List.getElem_cons_zero, Act.put, List.setIfInBounds_toArray, List.set_cons_zero, List.set_cons_succ]
                      refine Fx.take (i := 34) (v := ?_) _ rfl (by kernel_rfl) (by kernel_rfl) (by kernel_rfl) hSS ?_ ?_
                      rotate_left
                      · (intro w' hSw; (try dsimp only at hSw); go_simp; first | done | with_reducible rfl)
                      try simp (maxSteps := 100000000) only [List.getElem_toArray, List.getElem_cons_succ, List.getElem_cons_zero, Act.put, List.setIfInBounds_toArray, List.set_cons_zero, List.set_cons_succ]
                      refine Fx.take (i := 35) (v := ?_) _ rfl (by kernel_rfl) (by kernel_rfl) (by kernel_rfl) hSS ?_ ?_
                      rotate_left
                      · (intro w' hSw; (try dsimp only at hSw); go_simp; first | done | with_reducible rfl)
                      try simp (maxSteps := 100000000) only [List.getElem_toArray, List.getElem_cons_succ, List.getElem_cons_zero, Act.put, List.setIfInBounds_toArray, List.set_cons_zero, List.set_cons_succ]
                      refine Fx.take (i := 36) (v := ?_) _ rfl (by kernel_rfl) (by kernel_rfl) (by kernel_rfl) hSS ?_ ?_
                      rotate_left
                      · (intro w' hSw; (try dsimp only at hSw); go_simp; first | done | with_reducible rfl)
                      try simp (maxSteps := 100000000) only [List.getElem_toArray, List.getElem_cons_succ, List.getElem_cons_zero, Act.put, List.setIfInBounds_toArray, List.set_cons_zero, List.set_cons_succ]
                      refine Fx.take (i := 37) (v := ?_) _ rfl (by kernel_rfl) (by kernel_rfl) (by kernel_rfl) hSS ?_ ?_
                      rotate_left
                      · (intro w' hSw; (try dsimp only at hSw); go_simp; first | done | with_reducible rfl)
                      try simp (maxSteps := 100000000) only [List.getElem_toArray, List.getElem_cons_succ, List.getElem_cons_zero, Act.put, List.setIfInBounds_toArray, List.set_cons_zero, List.set_cons_succ]
                      refine Fx.skip (i := 38) rfl (by kernel_rfl) (by kernel_rfl) (by kernel_rfl) ?_
                      try simp (maxSteps := 100000000) only [List.getElem_toArray, List.getElem_cons_succ, List.getElem_cons_zero, Act.put, List.setIfInBounds_toArray, List.set_cons_zero, List.set_cons_succ]
                      refine Fx.skip (i := 39) rfl (by kernel_rfl) (by kernel_rfl) (by kernel_rfl) ?_
                      try simp (maxSteps := 100000000) only [List.getElem_toArray, List.getElem_cons_succ, List.getElem_cons_zero, Act.put, List.setIfInBounds_toArray, List.set_cons_zero, List.set_cons_succ]
                      refine Fx.skip (i := 40) rfl (by kernel_rfl) (by kernel_rfl) (by kernel_rfl) ?_
                      try simp (maxSteps := 100000000) only [List.getElem_toArray, List.getElem_cons_succ, List.getElem_cons_zero, Act.put, List.setIfInBounds_toArray, List.set_cons_zero, List.set_cons_succ]
                      refine Fx.skip (i := 41) rfl (by kernel_rfl) (by kernel_rfl) (by kernel_rfl) ?_
                      try simp (maxSteps := 100000000) only [List.getElem_toArray, List.getElem_cons_succ, List.getElem_cons_zero, Act.put, List.setIfInBounds_toArray, List.set_cons_zero, List.set_cons_succ]
                      refine Fx.skip (i := 42) rfl (by kernel_rfl) (by kernel_rfl) (by kernel_rfl) ?_
                      try simp (maxSteps := 100000000) only [List.getElem_toArray, List.getElem_cons_succ, List.getElem_cons_zero, Act.put, List.setIfInBounds_toArray, List.set_cons_zero, List.set_cons_succ]
                      refine Fx.skip (i := 43) rfl (by kernel_rfl) (by kernel_rfl) (by kernel_rfl) ?_
                      try simp (maxSteps := 100000000) only [List.getElem_toArray, List.getElem_cons_succ, List.getElem_cons_zero, Act.put, List.setIfInBounds_toArray, List.set_cons_zero, List.set_cons_succ]
                      refine Fx.skip (i := 44) rfl (by kernel_rfl) (by kernel_rfl) (by kernel_rfl) ?_
                      try simp (maxSteps := 100000000) only [List.getElem_toArray, List.getElem_cons_succ, List.getElem_cons_zero, Act.put, List.setIfInBounds_toArray, List.set_cons_zero, List.set_cons_succ]
                      refine Fx.skip (i := 45) rfl (by kernel_rfl) (by kernel_rfl) (by kernel_rfl) ?_
                      try simp (maxSteps := 100000000) only [List.getElem_toArray, List.getElem_cons_succ, List.getElem_cons_zero, Act.put, List.setIfInBounds_toArray, List.set_cons_zero, List.set_cons_succ]
                      refine Fx.skip (i := 46) rfl (by kernel_rfl) (by kernel_rfl) (by kernel_rfl) ?_
                      try simp (maxSteps := 100000000) only [List.getElem_toArray, List.getElem_cons_succ, List.getElem_cons_zero, Act.put, List.setIfInBounds_toArray, List.set_cons_zero, List.set_cons_succ]
                      refine Fx.skip (i := 47) rfl (by kernel_rfl) (by kernel_rfl) (by kernel_rfl) ?_
                      try simp (maxSteps := 100000000) only [List.getElem_toArray, List.getElem_cons_succ, List.getElem_cons_zero, Act.put, List.setIfInBounds_toArray, List.set_cons_zero, List.set_cons_succ]
                      refine Fx.skip (i := 48) rfl (by kernel_rfl) (by kernel_rfl) (by kernel_rfl) ?_
                      try simp (maxSteps := 100000000) only [List.getElem_toArray, List.getElem_cons_succ, List.getElem_cons_zero, Act.put, List.setIfInBounds_toArray, List.set_cons_zero, List.set_cons_succ]
                      refine Fx.skip (i := 49) rfl (by kernel_rfl) (by kernel_rfl) (by kernel_rfl) ?_
                      try simp (maxSteps := 100000000) only [List.getElem_toArray, List.getElem_cons_succ, List.getElem_cons_zero, Act.put, List.setIfInBounds_toArray, List.set_cons_zero, List.set_cons_succ]
                      refine Fx.skip (i := 50) rfl (by kernel_rfl) (by kernel_rfl) (by kernel_rfl) ?_
                      try simp (maxSteps := 100000000) only [List.getElem_toArray, List.getElem_cons_succ, List.getElem_cons_zero, Act.put, List.setIfInBounds_toArray, List.set_cons_zero, List.set_cons_succ]
                      refine Fx.skip (i := 51) rfl (by kernel_rfl) (by kernel_rfl) (by kernel_rfl) ?_
                      try simp (maxSteps := 100000000) only [List.getElem_toArray, List.getElem_cons_succ, List.getElem_cons_zero, Act.put, List.setIfInBounds_toArray, List.set_cons_zero, List.set_cons_succ]
                      refine Fx.skip (i := 52) rfl (by kernel_rfl) (by kernel_rfl) (by kernel_rfl) ?_
                      try simp (maxSteps := 100000000) only [List.getElem_toArray, List.getElem_cons_succ, List.getElem_cons_zero, Act.put, List.setIfInBounds_toArray, List.set_cons_zero, List.set_cons_succ]
                      refine Fx.skip (i := 53) rfl (by kernel_rfl) (by kernel_rfl) (by kernel_rfl) ?_
                      try simp (maxSteps := 100000000) only [List.getElem_toArray, List.getElem_cons_succ, List.getElem_cons_zero, Act.put, List.setIfInBounds_toArray, List.set_cons_zero, List.set_cons_succ]
                      refine Fx.skip (i := 54) rfl (by kernel_rfl) (by kernel_rfl) (by kernel_rfl) ?_
                      try simp (maxSteps := 100000000) only [List.getElem_toArray, List.getElem_cons_succ, List.getElem_cons_zero, Act.put, List.setIfInBounds_toArray, List.set_cons_zero, List.set_cons_succ]
                      refine Fx.skip (i := 55) rfl (by kernel_rfl) (by kernel_rfl) (by kernel_rfl) ?_
                      try simp (maxSteps := 100000000) only [List.getElem_toArray, List.getElem_cons_succ, List.getElem_cons_zero, Act.put, List.setIfInBounds_toArray, List.set_cons_zero, List.set_cons_succ]
                      refine Fx.skip (i := 56) rfl (by kernel_rfl) (by kernel_rfl) (by kernel_rfl) ?_
                      try simp (maxSteps := 100000000) only [List.getElem_toArray, List.getElem_cons_succ, List.getElem_cons_zero, Act.put, List.setIfInBounds_toArray, List.set_cons_zero, List.set_cons_succ]
                      refine Fx.skip (i := 57) rfl (by kernel_rfl) (by kernel_rfl) (by kernel_rfl) ?_
                      try simp (maxSteps := 100000000) only [List.getElem_toArray, List.getElem_cons_succ, List.getElem_cons_zero, Act.put, List.setIfInBounds_toArray, List.set_cons_zero, List.set_cons_succ]
                      refine Fx.skip (i := 58) rfl (by kernel_rfl) (by kernel_rfl) (by kernel_rfl) ?_
                      try simp (maxSteps := 100000000) only [List.getElem_toArray, List.getElem_cons_succ, List.getElem_cons_zero, Act.put, List.setIfInBounds_toArray, List.set_cons_zero, List.set_cons_succ]
                      refine Fx.skip (i := 59) rfl (by kernel_rfl) (by kernel_rfl) (by kernel_rfl) ?_
                      try simp (maxSteps := 100000000) only [List.getElem_toArray, List.getElem_cons_succ, List.getElem_cons_zero, Act.put, List.setIfInBounds_toArray, List.set_cons_zero, List.set_cons_succ]
                      refine Fx.skip (i := 60) rfl (by kernel_rfl) (by kernel_rfl) (by kernel_rfl) ?_
                      try simp (maxSteps := 100000000) only [List.getElem_toArray, List.getElem_cons_succ, List.getElem_cons_zero, Act.put, List.setIfInBounds_toArray, List.set_cons_zero, List.set_cons_succ]
                      refine Fx.skip (i := 61) rfl (by kernel_rfl) (by kernel_rfl) (by kernel_rfl) ?_
                      try simp (maxSteps := 100000000) only [List.getElem_toArray, List.getElem_cons_succ, List.getElem_cons_zero, Act.put, List.setIfInBounds_toArray, List.set_cons_zero, List.set_cons_succ]
                      refine Fx.skip (i := 62) rfl (by kernel_rfl) (by kernel_rfl) (by kernel_rfl) ?_
                      try simp (maxSteps := 100000000) only [List.getElem_toArray, List.getElem_cons_succ, List.getElem_cons_zero, Act.put, List.setIfInBounds_toArray, List.set_cons_zero, List.set_cons_succ]
                      refine Fx.skip (i := 63) rfl (by kernel_rfl) (by kernel_rfl) (by kernel_rfl) ?_
                      try simp (maxSteps := 100000000) only [List.getElem_toArray, List.getElem_cons_succ, List.getElem_cons_zero, Act.put, List.setIfInBounds_toArray, List.set_cons_zero, List.set_cons_succ]
                      refine Fx.skip (i := 64) rfl (by kernel_rfl) (by kernel_rfl) (by kernel_rfl) ?_
                      try simp (maxSteps := 100000000) only [List.getElem_toArray, List.getElem_cons_succ, List.getElem_cons_zero, Act.put, List.setIfInBounds_toArray, List.set_cons_zero, List.set_cons_succ]
                      refine Fx.skip (i := 65) rfl (by kernel_rfl) (by kernel_rfl) (by kernel_rfl) ?_
                      try simp (maxSteps := 100000000) only [List.getElem_toArray, List.getElem_cons_succ, List.getElem_cons_zero, Act.put, List.setIfInBounds_toArray, List.set_cons_zero, List.set_cons_succ]
                      refine Fx.skip (i := 66) rfl (by kernel_rfl) (by kernel_rfl) (by kernel_rfl) ?_
                      try simp (maxSteps := 100000000) only [List.getElem_toArray, List.getElem_cons_succ, List.getElem_cons_zero, Act.put, List.setIfInBounds_toArray, List.set_cons_zero, List.set_cons_succ]
                      refine Fx.skip (i := 67) rfl (by kernel_rfl) (by kernel_rfl) (by kernel_rfl) ?_
                      try simp (maxSteps := 100000000) only [List.getElem_toArray, List.getElem_cons_succ, List.getElem_cons_zero, Act.put, List.setIfInBounds_toArray, List.set_cons_zero, List.set_cons_succ]
                      refine Fx.skip (i := 68) rfl (by kernel_rfl) (by kernel_rfl) (by kernel_rfl) ?_
                      try simp (maxSteps := 100000000) only [List.getElem_toArray, List.getElem_cons_succ, List.getElem_cons_zero, Act.put, List.setIfInBounds_toArray, List.set_cons_zero, List.set_cons_succ]
                      refine Fx.take (i := 69) (v := ?_) _ rfl (by kernel_rfl) (by kernel_rfl) (by kernel_rfl) hSS ?_ ?_
                      rotate_left
                      · (intro w' hSw; (try dsimp only at hSw); go_simp; first | done | with_reducible rfl)
                      try simp (maxSteps := 100000000) only [List.getElem_toArray, List.getElem_cons_succ, List.getElem_cons_zero, Act.put, List.setIfInBounds_toArray, List.set_cons_zero, List.set_cons_succ]
                      refine Fx.take (i := 70) (v := ?_) _ rfl (by kernel_rfl) (by kernel_rfl) (by kernel_rfl) hSS ?_ ?_
                      rotate_left
                      · (intro w' hSw; (try dsimp only at hSw); go_simp; first | done | with_reducible rfl)
                      try simp (maxSteps := 100000000) only [List.getElem_toArray, List.getElem_cons_succ, List.getElem_cons_zero, Act.put, List.setIfInBounds_toArray, List.set_cons_zero, List.set_cons_succ]
                      refine Fx.done 0 (by kernel_rfl) (by kernel_rfl) (fun w4 hC => ?_)
                      have HN5 := Lib.hid (HEND.out w4 (HMX.out.trans0 hC))
                      clear hC hSS HEND HMX HX x0 x1 c0 s0
                      go_wp2_with fail
                      go_roundw
                      case rel => exact ⟨0 + 1, by omega, by go_num, HN5.out.1, HN5.out.2.1, HN5.out.2.2⟩
                      case measure => first | (simp [intOf]; done) | (simp [intOf]; omega)
                    · obtain ⟨p1, p2, hpc, hpo⟩ := HPRE.out m rfl
                      obtain ⟨d0, d1⟩ := hpc W2 HMX.out
                      have hz : decide ((0 : Int) < (m : Int) + 1) = true := decide_eq_true (by omega)
                      have hmN : m < O.length := by omega
                      have hwm := IntWalk.i64_in (m : Int) (by omega)
                      rcases hpo with hp | ⟨hp, hp2⟩
                      · have hg1 : decide (t < p1) = false := decide_eq_false (by omega)
                        have hg2 : (p1 == t) = false := by rw [beq_eq_false_iff_ne]; omega
                        clear hpc hp
                        refine Fx.wp_region_f [] (fun _ w' => Mod W2 w' []) (by kernel_rfl) (by decide) (Mod.refl _ _).drew ?_
                        have hSS : ∀ (m' : Nat) w', Mod W2 w' [] → _ := fun m' w' h => (⟨keepC h x0, keepC h x1, keepC h c0, keepC h s0, keepC h d0, keepC h d1⟩ : _ ∧ _ ∧ _ ∧ _ ∧ _ ∧ _)
                        simp only [List.append_eq, List.cons_append, List.nil_append]
                        refine Fx.take (i := 0) (v := ?_) _ rfl (by kernel_rfl) (by kernel_rfl) (by kernel_rfl) hSS ?_ ?_
                        rotate_left
                        · (intro w' hSw; (try dsimp only at hSw); go_simp; first | done | with_reducible rfl)
                        try simp (maxSteps := 100000000) only [List.getElem_toArray, List.getElem_cons_succ, List.getElem_cons_zero, Act.put, List.setIfInBounds_toArray, List.set_cons_zero, List.set_cons_succ]
                        refine Fx.take (i := 1) (v := ?_) _ rfl (by kernel_rfl) (by kernel_rfl) (by kernel_rfl) hSS ?_ ?_
                        rotate_left
                        · (intro w' hSw; (try dsimp only at hSw); go_simp; first | done | with_reducible rfl)
                        try simp (maxSteps := 100000000) only [List.getElem_toArray, List.getElem_cons_succ, List.getElem_cons_zero, Act.put, List.setIfInBounds_toArray, List.set_cons_zero, List.set_cons_succ]
                        refine Fx.take (i := 2) (v := ?_) _ rfl (by kernel_rfl) (by kernel_rfl) (by kernel_rfl) hSS ?_ ?_
                        rotate_left
                        · (intro w' hSw; (try dsimp only at hSw); go_simp; first | done | with_reducible rfl)
                        try simp (maxSteps := 100000000) only [List.getElem_toArray, List.getElem_cons_succ, List.getElem_cons_zero, Act.put, List.setIfInBounds_toArray, List.set_cons_zero, List.set_cons_succ]
                        refine Fx.take (i := 3) (v := ?_) _ rfl (by kernel_rfl) (by kernel_rfl) (by kernel_rfl) hSS ?_ ?_
                        rotate_left
                        · (intro w' hSw; (try dsimp only at hSw); go_simp; first | done | with_reducible rfl)
                        try simp (maxSteps := 100000000) only [List.getElem_toArray, List.getElem_cons_succ, List.getElem_cons_zero, Act.put, List.setIfInBounds_toArray, List.set_cons_zero, List.set_cons_succ]
                        refine Fx.take (i := 4) (v := ?_) _ rfl (by kernel_rfl) (by kernel_rfl) (by kernel_rfl) hSS ?_ ?_
                        rotate_left
                        · (intro w' hSw; (try dsimp only at hSw); go_simp; first | done | with_reducible rfl)
                        try simp (maxSteps := 100000000) only [List.getElem_toArray, List.getElem_cons_succ, List.getElem_cons_zero, Act.put, List.setIfInBounds_toArray, List.set_cons_zero, List.set_cons_succ]
                        refine Fx.take (i := 5) (v := ?_) _ rfl (by kernel_rfl) (by kernel_rfl) (by kernel_rfl) hSS ?_ ?_
                        rotate_left
                        · (intro w' hSw; (try dsimp only at hSw); go_simp; first | done | with_reducible rfl)
                        try simp (maxSteps := 100000000) only [List.getElem_toArray, List.getElem_cons_succ, List.getElem_cons_zero, Act.put, List.setIfInBounds_toArray, List.set_cons_zero, List.set_cons_succ]
                        refine Fx.take (i := 6) (v := ?_) _ rfl (by kernel_rfl) (by kernel_rfl) (by kernel_rfl) hSS ?_ ?_
                        rotate_left
                        · (intro w' hSw; (try dsimp only at hSw); go_simp; first | done | with_reducible rfl)
                        try simp (maxSteps := 100000000) only [List.getElem_toArray, List.getElem_cons_succ, List.getElem_cons_zero, Act.put, List.setIfInBounds_toArray, List.set_cons_zero, List.set_cons_succ]
                        refine Fx.take (i := 7) (v := ?_) _ rfl (by kernel_rfl) (by kernel_rfl) (by kernel_rfl) hSS ?_ ?_
                        rotate_left
                        · (intro w' hSw; (try dsimp only at hSw); go_simp; first | done | with_reducible rfl)
                        try simp (maxSteps := 100000000) only [List.getElem_toArray, List.getElem_cons_succ, List.getElem_cons_zero, Act.put, List.setIfInBounds_toArray, List.set_cons_zero, List.set_cons_succ]
                        refine Fx.take (i := 8) (v := ?_) _ rfl (by kernel_rfl) (by kernel_rfl) (by kernel_rfl) hSS ?_ ?_
                        rotate_left
                        · (intro w' hSw; (try dsimp only at hSw); go_simp; first | done | with_reducible rfl)
                        try simp (maxSteps := 100000000) only [List.getElem_toArray, List.getElem_cons_succ, List.getElem_cons_zero, Act.put, List.setIfInBounds_toArray, List.set_cons_zero, List.set_cons_succ]
                        refine Fx.take (i := 9) (v := ?_) _ rfl (by kernel_rfl) (by kernel_rfl) (by kernel_rfl) hSS ?_ ?_
                        rotate_left
                        · (intro w' hSw; (try dsimp only at hSw); go_simp; first | done | with_reducible rfl)
                        try simp (maxSteps := 100000000) only [List.getElem_toArray, List.getElem_cons_succ, List.getElem_cons_zero, Act.put, List.setIfInBounds_toArray, List.set_cons_zero, List.set_cons_succ]
                        refine Fx.take (i := 10) (v := ?_) _ rfl (by kernel_rfl) (by kernel_rfl) (by kernel_rfl) hSS ?_ ?_
                        rotate_left
                        · (intro w' hSw; (try dsimp only at hSw); go_simp; first | done | with_reducible rfl)
                        try simp (maxSteps := 100000000) only [List.getElem_toArray, List.getElem_cons_succ, List.getElem_cons_zero, Act.put, List.setIfInBounds_toArray, List.set_cons_zero, List.set_cons_succ]
                        refine Fx.take (i := 11) (v := ?_) _ rfl (by kernel_rfl) (by kernel_rfl) (by kernel_rfl) hSS ?_ ?_
                        rotate_left
                        · (intro w' hSw; (try dsimp only at hSw); go_simp; first | done | with_reducible rfl)
                        try simp (maxSteps := 100000000) only [List.getElem_toArray, List.getElem_cons_succ, List.getElem_cons_zero, Act.put, List.setIfInBounds_toArray, List.set_cons_zero, List.set_cons_succ]
                        refine Fx.take (i := 12) (v := ?_) _ rfl (by kernel_rfl) (by kernel_rfl) (by kernel_rfl) hSS ?_ ?_
                        rotate_left
                        · (intro w' hSw; (try dsimp only at hSw); go_simp; first | done | with_reducible rfl)
                        try simp (maxSteps := 100000000) only [List.getElem_toArray, List.getElem_cons_succ, List.getElem_cons_zero, Act.put, List.setIfInBounds_toArray, List.set_cons_zero, List.set_cons_succ]
                        refine Fx.take (i := 13) (v := ?_) _ rfl (by kernel_rfl) (by kernel_rfl) (by kernel_rfl) hSS ?_ ?_
                        rotate_left
                        · (intro w' hSw; (try dsimp only at hSw); go_simp; first | done | with_reducible rfl)
                        try simp (maxSteps := 100000000) only [List.getElem_toArray, List.getElem_cons_succ, List.getElem_cons_zero, Act.put, List.setIfInBounds_toArray, List.set_cons_zero, List.set_cons_succ]
                        refine Fx.take (i := 14) (v := ?_) _ rfl (by kernel_rfl) (by kernel_rfl) (by kernel_rfl) hSS ?_ ?_
                        rotate_left
                        · (intro w' hSw; (try dsimp only at hSw); go_simp; first | done | with_reducible rfl)
                        try simp (maxSteps := 100000000) only [List.getElem_toArray, List.getElem_cons_succ, List.getElem_cons_zero, Act.put, List.setIfInBounds_toArray, List.set_cons_zero, List.set_cons_succ]
                        refine Fx.take (i := 15) (v := ?_) _ rfl (by kernel_rfl) (by kernel_rfl) (by kernel_rfl) hSS ?_ ?_
                        rotate_left
                        · (intro w' hSw; (try dsimp only at hSw); go_simp; first | done | with_reducible rfl)
                        try simp (maxSteps := 100000000) only [List.getElem_toArray, List.getElem_cons_succ, List.getElem_cons_zero, Act.put, List.setIfInBounds_toArray, List.set_cons_zero, List.set_cons_succ]
                        refine Fx.take (i := 16) (v := ?_) _ rfl (by kernel_rfl) (by kernel_rfl) (by kernel_rfl) hSS ?_ ?_
                        rotate_left
                        · (intro w' hSw; (try dsimp only at hSw); go_simp; first | done | with_reducible rfl)
                        try simp (maxSteps := 100000000) only [List.getElem_toArray, List.getElem_cons_succ, List.getElem_cons_zero, Act.put, List.setIfInBounds_toArray, List.set_cons_zero, List.set_cons_succ]
                        refine Fx.take (i := 17) (v := ?_) _ rfl (by kernel_rfl) (by kernel_rfl) (by kernel_rfl) hSS ?_ ?_
                        rotate_left
                        · (intro w' hSw; (try dsimp only at hSw); go_simp; first | done | with_reducible rfl)
                        try simp (maxSteps := 100000000) only [List.getElem_toArray, List.getElem_cons_succ, List.getElem_cons_zero, Act.put, List.setIfInBounds_toArray, List.set_cons_zero, List.set_cons_succ]
                        refine Fx.take (i := 18) (v := ?_) _ rfl (by kernel_rfl) (by kernel_rfl) (by kernel_rfl) hSS ?_ ?_
                        rotate_left
                        · (intro w' hSw; (try dsimp only at hSw); go_simp; first | done | with_reducible rfl)
                        try simp (maxSteps := 100000000) only [List.getElem_toArray, List.getElem_cons_succ, List.getElem_cons_zero, Act.put, List.setIfInBounds_toArray, List.set_cons_zero, List.set_cons_succ]
                        refine Fx.take (i := 19) (v := ?_) _ rfl (by kernel_rfl) (by kernel_rfl) (by kernel_rfl) hSS ?_ ?_
                        rotate_left
                        · (intro w' hSw; (try dsimp only at hSw); go_simp; first | done | with_reducible rfl)
                        try simp (maxSteps := 100000000) only [List.getElem_toArray, List.getElem_cons_succ, List.getElem_cons_zero, Act.put, List.setIfInBounds_toArray, List.set_cons_zero, List.set_cons_succ]
                        refine Fx.take (i := 20) (v := ?_) _ rfl (by kernel_rfl) (by kernel_rfl) (by kernel_rfl) hSS ?_ ?_
                        rotate_left
                        · (intro w' hSw; (try dsimp only at hSw); go_simp; first | done | with_reducible rfl)
                        try simp (maxSteps := 100000000) only [List.getElem_toArray, List.getElem_cons_succ, List.getElem_cons_zero, Act.put, List.setIfInBounds_toArray, List.set_cons_zero, List.set_cons_succ]
                        refine Fx.take (i := 21) (v := ?_) _ rfl (by kernel_rfl) (by kernel_rfl) (by kernel_rfl) hSS ?_ ?_
                        rotate_left
                        · (intro w' hSw; (try dsimp only at hSw); go_simp; first | done | with_reducible rfl)
                        try simp (maxSteps := 100000000) only [List.getElem_toArray, List.getElem_cons_succ, List.getElem_cons_zero, Act.put, List.setIfInBounds_toArray, List.set_cons_zero, List.set_cons_succ]
                        refine Fx.take (i := 22) (v := ?_) _ rfl (by kernel_rfl) (by kernel_rfl) (by kernel_rfl) hSS ?_ ?_
                        rotate_left
                        · (intro w' hSw; (try dsimp only at hSw); go_simp; first | done | with_reducible rfl)
                        try simp (maxSteps := 100000000) only [List.getElem_toArray, List.getElem_cons_succ, List.getElem_cons_zero, Act.put, List.setIfInBounds_toArray, List.set_cons_zero, List.set_cons_succ]
                        refine Fx.take (i := 23) (v := ?_) _ rfl (by kernel_rfl) (by kernel_rfl) (by kernel_rfl) hSS ?_ ?_
                        rotate_left
                        · (intro w' hSw; (try dsimp only at hSw); go_simp; first | done | with_reducible rfl)
                        try simp (maxSteps := 100000000) only [List.getElem_toArray, List.getElem_cons_succ, List.getElem_cons_zero, Act.put, List.setIfInBounds_toArray, List.set_cons_zero, List.set_cons_succ]
                        refine Fx.take (i := 24) (v := ?_) _ rfl (by kernel_rfl) (by kernel_rfl) (by kernel_rfl) hSS ?_ ?_
                        rotate_left
                        · (intro w' hSw; (try dsimp only at hSw); go_simp; first | done | with_reducible rfl)
                        try simp (maxSteps := 100000000) only [List.getElem_toArray, List.getElem_cons_succ, List.getElem_cons_zero, Act.put, List.setIfInBounds_toArray, List.set_cons_zero, List.set_cons_succ]
                        refine Fx.take (i := 25) (v := ?_) _ rfl (by kernel_rfl) (by kernel_rfl) (by kernel_rfl) hSS ?_ ?_
                        rotate_left
                        · (intro w' hSw; (try dsimp only at hSw); go_simp; first | done | with_reducible rfl)
                        try simp (maxSteps := 100000000) only [List.getElem_toArray, List.getElem_cons_succ, List.getElem_cons_zero, Act.put, List.setIfInBounds_toArray, List.set_cons_zero, List.set_cons_succ]
                        refine Fx.take (i := 26) (v := ?_) _ rfl (by kernel_rfl) (by kernel_rfl) (by kernel_rfl) hSS ?_ ?_
                        rotate_left
                        · (intro w' hSw; (try dsimp only at hSw); go_simp; first | done | with_reducible rfl)
                        try simp (maxSteps := 100000000) only [List.getElem_toArray, List.getElem_cons_succ, List.getElem_cons_zero, Act.put, List.setIfInBounds_toArray, List.set_cons_zero, List.set_cons_succ]
                        refine Fx.take (i := 27) (v := ?_) _ rfl (by kernel_rfl) (by kernel_rfl) (by kernel_rfl) hSS ?_ ?_
                        rotate_left
                        · (intro w' hSw; (try dsimp only at hSw); go_simp; first | done | with_reducible rfl)
                        try simp (maxSteps := 100000000) only [List.getElem_toArray, List.getElem_cons_succ, List.getElem_cons_zero, Act.put, List.setIfInBounds_toArray, List.set_cons_zero, List.set_cons_succ]
                        refine Fx.take (i := 28) (v := ?_) _ rfl (by kernel_rfl) (by kernel_rfl) (by kernel_rfl) hSS ?_ ?_
                        rotate_left
                        · (intro w' hSw; (try dsimp only at hSw); go_simp; first | done | with_reducible rfl)
                        try simp (maxSteps := 100000000) only [List.getElem_toArray, List.getElem_cons_succ, List.getElem_cons_zero, Act.put, List.setIfInBounds_toArray, List.set_cons_zero, List.set_cons_succ]
                        refine Fx.take (i := 29) (v := ?_) _ rfl (by kernel_rfl) (by kernel_rfl) (by kernel_rfl) hSS ?_ ?_
                        rotate_left
                        · (intro w' hSw; (try dsimp only at hSw); go_simp; first | done | with_reducible rfl)
                        try simp (maxSteps := 100000000) only [List.getElem_toArray, List.getElem_cons_succ, List.getElem_cons_zero, Act.put, List.setIfInBounds_toArray, List.set_cons_zero, List.set_cons_succ]
                        refine Fx.take (i := 30) (v := ?_) _ rfl (by kernel_rfl) (by kernel_rfl) (by kernel_rfl) hSS ?_ ?_
                        rotate_left
                        · (intro w' hSw; (try dsimp only at hSw); go_simp; first | done | with_reducible rfl)
                        try simp (maxSteps := 100000000) only [List.getElem_toArray, List.getElem_cons_succ, List.getElem_cons_zero, Act.put, List.setIfInBounds_toArray, List.set_cons_zero, List.set_cons_succ]
                        refine Fx.take (i := 31) (v := ?_) _ rfl (by kernel_rfl) (by kernel_rfl) (by kernel_rfl) hSS ?_ ?_
                        rotate_left
                        · (intro w' hSw; (try dsimp only at hSw); go_simp; first | done | with_reducible rfl)
                        try simp (maxSteps := 100000000) only [List.getElem_toArray, List.getElem_cons_succ, List.getElem_cons_zero, Act.put, List.setIfInBounds_toArray, List.set_cons_zero, List.set_cons_succ]
                        refine Fx.take (i := 32) (v := ?_) _ rfl (by kernel_rfl) (by kernel_rfl) (by kernel_rfl) hSS ?_ ?_
                        rotate_left
                        · (intro w' hSw; (try dsimp only at hSw); go_simp; first | done | with_reducible rfl)
                        try simp (maxSteps := 100000000) only [List.getElem_toArray, List.getElem_cons_succ, List.getElem_cons_zero, Act.put, List.setIfInBounds_toArray, List.set_cons_zero, List.set_cons_succ]
                        refine Fx.take (i := 33) (v := ?_) _ rfl (by kernel_rfl) (by kernel_rfl) (by kernel_rfl) hSS ?_ ?_
                        rotate_left
                        · (intro w' hSw; (try dsimp only at hSw); go_simp; first | done | with_reducible rfl)
                        try simp (maxSteps := 100000000) only [List.getElem_toArray, List.getElem_cons_succ, List.getElem_cons_zero, Act.put, List.setIfInBounds_toArray, List.set_cons_zero, List.set_cons_succ]
                        refine Fx.take (i := 34) (v := ?_) _ rfl (by kernel_rfl) (by kernel_rfl) (by kernel_rfl) hSS ?_ ?_
                        rotate_left
                        · (intro w' hSw; (try dsimp only at hSw); go_simp; first | done | with_reducible rfl)
                        try simp (maxSteps := 100000000) only [List.getElem_toArray, List.getElem_cons_succ, List.getElem_cons_zero, Act.put, List.setIfInBounds_toArray, List.set_cons_zero, List.set_cons_succ]
                        refine Fx.take (i := 35) (v := ?_) _ rfl (by kernel_rfl) (by kernel_rfl) (by kernel_rfl) hSS ?_ ?_
                        rotate_left
                        · (intro w' hSw; (try dsimp only at hSw); go_simp; first | done | with_reducible rfl)
                        try simp (maxSteps := 100000000) only [List.getElem_toArray, List.getElem_cons_succ, List.getElem_cons_zero, Act.put, List.setIfInBounds_toArray, List.set_cons_zero, List.set_cons_succ]
                        refine Fx.take (i := 36) (v := ?_) _ rfl (by kernel_rfl) (by kernel_rfl) (by kernel_rfl) hSS ?_ ?_
                        rotate_left
                        · (intro w' hSw; (try dsimp only at hSw); go_simp; first | done | with_reducible rfl)
                        try simp (maxSteps := 100000000) only [List.getElem_toArray, List.getElem_cons_succ, List.getElem_cons_zero, Act.put, List.setIfInBounds_toArray, List.set_cons_zero, List.set_cons_succ]
                        refine Fx.take (i := 37) (v := ?_) _ rfl (by kernel_rfl) (by kernel_rfl) (by kernel_rfl) hSS ?_ ?_
                        rotate_left
                        · (intro w' hSw; (try dsimp only at hSw); go_simp; first | done | with_reducible rfl)
                        try simp (maxSteps := 100000000) only [List.getElem_toArray, List.getElem_cons_succ, List.getElem_cons_zero, Act.put, List.setIfInBounds_toArray, List.set_cons_zero, List.set_cons_succ]
                        refine Fx.take (i := 38) (v := ?_) _ rfl (by kernel_rfl) (by kernel_rfl) (by kernel_rfl) hSS ?_ ?_
                        rotate_left
                        · (intro w' hSw; (try dsimp only at hSw); go_simp; first | done | with_reducible rfl)
                        try simp (maxSteps := 100000000) only [List.getElem_toArray, List.getElem_cons_succ, List.getElem_cons_zero, Act.put, List.setIfInBounds_toArray, List.set_cons_zero, List.set_cons_succ]
                        refine Fx.take (i := 39) (v := ?_) _ rfl (by kernel_rfl) (by kernel_rfl) (by kernel_rfl) hSS ?_ ?_
                        rotate_left
                        · (intro w' hSw; (try dsimp only at hSw); go_simp; first | done | with_reducible rfl)
                        try simp (maxSteps := 100000000) only [List.getElem_toArray, List.getElem_cons_succ, List.getElem_cons_zero, Act.put, List.setIfInBounds_toArray, List.set_cons_zero, List.set_cons_succ]
                        refine Fx.take (i := 40) (v := ?_) _ rfl (by kernel_rfl) (by kernel_rfl) (by kernel_rfl) hSS ?_ ?_
                        rotate_left
                        · (intro w' hSw; (try dsimp only at hSw); go_simp; first | done | with_reducible rfl)
                        try simp (maxSteps := 100000000) only [List.getElem_toArray, List.getElem_cons_succ, List.getElem_cons_zero, Act.put, List.setIfInBounds_toArray, List.set_cons_zero, List.set_cons_succ]
                        refine Fx.take (i := 41) (v := ?_) _ rfl (by kernel_rfl) (by kernel_rfl) (by kernel_rfl) hSS ?_ ?_
                        rotate_left
                        · (intro w' hSw; (try dsimp only at hSw); go_simp; first | done | with_reducible rfl)
                        try simp (maxSteps := 100000000) only [List.getElem_toArray, List.getElem_cons_succ, List.getElem_cons_zero, Act.put, List.setIfInBounds_toArray, List.set_cons_zero, List.set_cons_succ]
                        refine Fx.take (i := 42) (v := ?_) _ rfl (by kernel_rfl) (by kernel_rfl) (by kernel_rfl) hSS ?_ ?_
                        rotate_left
                        · (intro w' hSw; (try dsimp only at hSw); go_simp; first | done | with_reducible rfl)
                        try simp (maxSteps := 100000000) only [List.getElem_toArray, List.getElem_cons_succ, List.getElem_cons_zero, Act.put, List.setIfInBounds_toArray, List.set_cons_zero, List.set_cons_succ]
                        refine Fx.take (i := 43) (v := ?_) _ rfl (by kernel_rfl) (by kernel_rfl) (by kernel_rfl) hSS ?_ ?_
                        rotate_left
                        · (intro w' hSw; (try dsimp only at hSw); go_simp; first | done | with_reducible rfl)
                        try simp (maxSteps := 100000000) only [List.getElem_toArray, List.getElem_cons_succ, List.getElem_cons_zero, Act.put, List.setIfInBounds_toArray, List.set_cons_zero, List.set_cons_succ]
                        refine Fx.take (i := 44) (v := ?_) _ rfl (by kernel_rfl) (by kernel_rfl) (by kernel_rfl) hSS ?_ ?_
                        rotate_left
                        · (intro w' hSw; (try dsimp only at hSw); go_simp; first | done | with_reducible rfl)
                        try simp (maxSteps := 100000000) only [List.getElem_toArray, List.getElem_cons_succ, List.getElem_cons_zero, Act.put, List.setIfInBounds_toArray, List.set_cons_zero, List.set_cons_succ]
                        refine Fx.take (i := 45) (v := ?_) _ rfl (by kernel_rfl) (by kernel_rfl) (by kernel_rfl) hSS ?_ ?_
                        rotate_left
                        · (intro w' hSw; (try dsimp only at hSw); go_simp; first | done | with_reducible rfl)
                        try simp (maxSteps := 100000000) only [List.getElem_toArray, List.getElem_cons_succ, List.getElem_cons_zero, Act.put, List.setIfInBounds_toArray, List.set_cons_zero, List.set_cons_succ]
                        refine Fx.take (i := 46) (v := ?_) _ rfl (by kernel_rfl) (by kernel_rfl) (by kernel_rfl) hSS ?_ ?_
                        rotate_left
                        · (intro w' hSw; (try dsimp only at hSw); go_simp; first | done | with_reducible rfl)
                        try simp (maxSteps := 100000000) only [List.getElem_toArray, List.getElem_cons_succ, List.getElem_cons_zero, Act.put, List.setIfInBounds_toArray, List.set_cons_zero, List.set_cons_succ]
                        refine Fx.take (i := 47) (v := ?_) _ rfl (by kernel_rfl) (by kernel_rfl) (by kernel_rfl) hSS ?_ ?_
                        rotate_left
                        · (intro w' hSw; (try dsimp only at hSw); go_simp; first | done | with_reducible rfl)
                        try simp (maxSteps := 100000000) only [List.getElem_toArray, List.getElem_cons_succ, List.getElem_cons_zero, Act.put, List.setIfInBounds_toArray, List.set_cons_zero, List.set_cons_succ]
                        refine Fx.take (i := 48) (v := ?_) _ rfl (by kernel_rfl) (by kernel_rfl) (by kernel_rfl) hSS ?_ ?_
                        rotate_left
                        · (intro w' hSw; (try dsimp only at hSw); go_simp; first | done | with_reducible rfl)
                        try simp (maxSteps := 100000000) only [List.getElem_toArray, List.getElem_cons_succ, List.getElem_cons_zero, Act.put, List.setIfInBounds_toArray, List.set_cons_zero, List.set_cons_succ]
                        refine Fx.take (i := 49) (v := ?_) _ rfl (by kernel_rfl) (by kernel_rfl) (by kernel_rfl) hSS ?_ ?_
                        rotate_left
                        · (intro w' hSw; (try dsimp only at hSw); go_simp; first | done | with_reducible rfl)
                        try simp (maxSteps := 100000000) only [List.getElem_toArray, List.getElem_cons_succ, List.getElem_cons_zero, Act.put, List.setIfInBounds_toArray, List.set_cons_zero, List.set_cons_succ]
                        refine Fx.take (i := 50) (v := ?_) _ rfl (by kernel_rfl) (by kernel_rfl) (by kernel_rfl) hSS ?_ ?_
                        rotate_left
                        · (intro w' hSw; (try dsimp only at hSw); go_simp; first | done | with_reducible rfl)
                        try simp (maxSteps := 100000000) only [List.getElem_toArray, List.getElem_cons_succ, List.getElem_cons_zero, Act.put, List.setIfInBounds_toArray, List.set_cons_zero, List.set_cons_succ]
                        refine Fx.take (i := 51) (v := ?_) _ rfl (by kernel_rfl) (by kernel_rfl) (by kernel_rfl) hSS ?_ ?_
                        rotate_left
                        · (intro w' hSw; (try dsimp only at hSw); go_simp; first | done | with_reducible rfl)
                        try simp (maxSteps := 100000000) only [List.getElem_toArray, List.getElem_cons_succ, List.getElem_cons_zero, Act.put, List.setIfInBounds_toArray, List.set_cons_zero, List.set_cons_succ]
                        refine Fx.take (i := 52) (v := ?_) _ rfl (by kernel_rfl) (by kernel_rfl) (by kernel_rfl) hSS ?_ ?_
                        rotate_left
                        · (intro w' hSw; (try dsimp only at hSw); go_simp; first | done | with_reducible rfl)
                        try simp (maxSteps := 100000000) only [List.getElem_toArray, List.getElem_cons_succ, List.getElem_cons_zero, Act.put, List.setIfInBounds_toArray, List.set_cons_zero, List.set_cons_succ]
                        refine Fx.take (i := 53) (v := ?_) _ rfl (by kernel_rfl) (by kernel_rfl) (by kernel_rfl) hSS ?_ ?_
                        rotate_left
                        · (intro w' hSw; (try dsimp only at hSw); go_simp; first | done | with_reducible rfl)
                        try simp (maxSteps := 100000000) only [List.getElem_toArray, List.getElem_cons_succ, List.getElem_cons_zero, Act.put, List.setIfInBounds_toArray, List.set_cons_zero, List.set_cons_succ]
                        refine Fx.take (i := 54) (v := ?_) _ rfl (by kernel_rfl) (by kernel_rfl) (by kernel_rfl) hSS ?_ ?_
                        rotate_left
                        · (intro w' hSw; (try dsimp only at hSw); go_simp; first | done | with_reducible rfl)
                        try simp (maxSteps := 100000000) only [List.getElem_toArray, List.getElem_cons_succ, List.getElem_cons_zero, Act.put, List.setIfInBounds_toArray, List.set_cons_zero, List.set_cons_succ]
                        refine Fx.take (i := 55) (v := ?_) _ rfl (by kernel_rfl) (by kernel_rfl) (by kernel_rfl) hSS ?_ ?_
                        rotate_left
                        · (intro w' hSw; (try dsimp only at hSw); go_simp; first | done | with_reducible rfl)
                        try simp (maxSteps := 100000000) only [List.getElem_toArray, List.getElem_cons_succ, List.getElem_cons_zero, Act.put, List.setIfInBounds_toArray, List.set_cons_zero, List.set_cons_succ]
                        refine Fx.take (i := 56) (v := ?_) _ rfl (by kernel_rfl) (by kernel_rfl) (by kernel_rfl) hSS ?_ ?_
                        rotate_left
                        · (intro w' hSw; (try dsimp only at hSw); go_simp; first | done | with_reducible rfl)
                        try simp (maxSteps := 100000000) only [List.getElem_toArray, List.getElem_cons_succ, List.getElem_cons_zero, Act.put, List.setIfInBounds_toArray, List.set_cons_zero, List.set_cons_succ]
                        refine Fx.take (i := 57) (v := ?_) _ rfl (by kernel_rfl) (by kernel_rfl) (by kernel_rfl) hSS ?_ ?_
                        rotate_left
                        · (intro w' hSw; (try dsimp only at hSw); go_simp; first | done | with_reducible rfl)
                        try simp (maxSteps := 100000000) only [List.getElem_toArray, List.getElem_cons_succ, List.getElem_cons_zero, Act.put, List.setIfInBounds_toArray, List.set_cons_zero, List.set_cons_succ]
                        refine Fx.skip (i := 58) rfl (by kernel_rfl) (by kernel_rfl) (by kernel_rfl) ?_
                        try simp (maxSteps := 100000000) only [List.getElem_toArray, List.getElem_cons_succ, List.getElem_cons_zero, Act.put, List.setIfInBounds_toArray, List.set_cons_zero, List.set_cons_succ]
                        refine Fx.skip (i := 59) rfl (by kernel_rfl) (by kernel_rfl) (by kernel_rfl) ?_
                        try simp (maxSteps := 100000000) only [List.getElem_toArray, List.getElem_cons_succ, List.getElem_cons_zero, Act.put, List.setIfInBounds_toArray, List.set_cons_zero, List.set_cons_succ]
                        refine Fx.skip (i := 60) rfl (by kernel_rfl) (by kernel_rfl) (by kernel_rfl) ?_
                        try simp (maxSteps := 100000000) only [List.getElem_toArray, List.getElem_cons_succ, List.getElem_cons_zero, Act.put, List.setIfInBounds_toArray, List.set_cons_zero, List.set_cons_succ]
                        refine Fx.skip (i := 61) rfl (by kernel_rfl) (by kernel_rfl) (by kernel_rfl) ?_
                        try simp (maxSteps := 100000000) only [List.getElem_toArray, List.getElem_cons_succ, List.getElem_cons_zero, Act.put, List.setIfInBounds_toArray, List.set_cons_zero, List.set_cons_succ]
                        refine Fx.skip (i := 62) rfl (by kernel_rfl) (by kernel_rfl) (by kernel_rfl) ?_
                        try simp (maxSteps := 100000000) only [List.getElem_toArray, List.getElem_cons_succ, List.getElem_cons_zero, Act.put, List.setIfInBounds_toArray, List.set_cons_zero, List.set_cons_succ]
                        refine Fx.skip (i := 63) rfl (by kernel_rfl) (by kernel_rfl) (by kernel_rfl) ?_
                        try simp (maxSteps := 100000000) only [List.getElem_toArray, List.getElem_cons_succ, List.getElem_cons_zero, Act.put, List.setIfInBounds_toArray, List.set_cons_zero, List.set_cons_succ]
                        refine Fx.skip (i := 64) rfl (by kernel_rfl) (by kernel_rfl) (by kernel_rfl) ?_
                        try simp (maxSteps := 100000000) only [List.getElem_toArray, List.getElem_cons_succ, List.getElem_cons_zero, Act.put, List.setIfInBounds_toArray, List.set_cons_zero, List.set_cons_succ]
                        refine Fx.skip (i := 65) rfl (by kernel_rfl) (by kernel_rfl) (by kernel_rfl) ?_
                        try simp (maxSteps := 100000000) only [List.getElem_toArray, List.getElem_cons_succ, List.getElem_cons_zero, Act.put, List.setIfInBounds_toArray, List.set_cons_zero, List.set_cons_succ]
                        refine Fx.skip (i := 66) rfl (by kernel_rfl) (by kernel_rfl) (by kernel_rfl) ?_
                        try simp (maxSteps := 100000000) only [List.getElem_toArray, List.getElem_cons_succ, List.getElem_cons_zero, Act.put, List.setIfInBounds_toArray, List.set_cons_zero, List.set_cons_succ]
                        refine Fx.take (i := 67) (v := ?_) _ rfl (by kernel_rfl) (by kernel_rfl) (by kernel_rfl) hSS ?_ ?_
                        rotate_left
                        · (intro w' hSw; (try dsimp only at hSw); go_simp; first | done | with_reducible rfl)
                        try simp (maxSteps := 100000000) only [List.getElem_toArray, List.getElem_cons_succ, List.getElem_cons_zero, Act.put, List.setIfInBounds_toArray, List.set_cons_zero, List.set_cons_succ]
                        refine Fx.take (i := 68) (v := ?_) _ rfl (by kernel_rfl) (by kernel_rfl) (by kernel_rfl) hSS ?_ ?_
                        rotate_left
                        · (intro w' hSw; (try dsimp only at hSw); go_simp; first | done | with_reducible rfl)
                        try simp (maxSteps := 100000000) only [List.getElem_toArray, List.getElem_cons_succ, List.getElem_cons_zero, Act.put, List.setIfInBounds_toArray, List.set_cons_zero, List.set_cons_succ]
                        refine Fx.take (i := 69) (v := ?_) _ rfl (by kernel_rfl) (by kernel_rfl) (by kernel_rfl) hSS ?_ ?_
                        rotate_left
                        · (intro w' hSw; (try dsimp only at hSw); go_simp; first | done | with_reducible rfl)
                        try simp (maxSteps := 100000000) only [List.getElem_toArray, List.getElem_cons_succ, List.getElem_cons_zero, Act.put, List.setIfInBounds_toArray, List.set_cons_zero, List.set_cons_succ]
                        refine Fx.take (i := 70) (v := ?_) _ rfl (by kernel_rfl) (by kernel_rfl) (by kernel_rfl) hSS ?_ ?_
                        rotate_left
                        · (intro w' hSw; (try dsimp only at hSw); go_simp; first | done | with_reducible rfl)
                        try simp (maxSteps := 100000000) only [List.getElem_toArray, List.getElem_cons_succ, List.getElem_cons_zero, Act.put, List.setIfInBounds_toArray, List.set_cons_zero, List.set_cons_succ]
                        refine Fx.done 0 (by kernel_rfl) (by kernel_rfl) (fun w4 hC => ?_)
                        have HN5 := Lib.hid (HEND.out w4 (HMX.out.trans0 hC))
                        clear hC hSS HEND HMX HX x0 x1 c0 s0
                        go_wp2_with fail
                        go_roundw
                        case rel => exact ⟨(m + 1) + 1, by omega, by go_num, HN5.out.1, HN5.out.2.1, HN5.out.2.2⟩
                        case measure => first | (simp [intOf]; done) | (simp [intOf]; omega)
                      · have hg1 : decide (t < p1) = false := decide_eq_false (by omega)
                        have hg2 : (p1 == t) = true := by rw [beq_iff_eq]; omega
                        have hg3 : decide ((j : Int) + 1 ≤ p2) = false := decide_eq_false (by omega)
                        have hg4 : decide ((j : Int) < p2) = false := decide_eq_false (by omega)
                        clear hpc hp hp2
                        refine Fx.wp_region_f [] (fun _ w' => Mod W2 w' []) (by kernel_rfl) (by decide) (Mod.refl _ _).drew ?_
                        have hSS : ∀ (m' : Nat) w', Mod W2 w' [] → _ := fun m' w' h => (⟨keepC h x0, keepC h x1, keepC h c0, keepC h s0, keepC h d0, keepC h d1⟩ : _ ∧ _ ∧ _ ∧ _ ∧ _ ∧ _)
                        simp only [List.append_eq, List.cons_append, List.nil_append]
                        refine Fx.take (i := 0) (v := ?_) _ rfl (by kernel_rfl) (by kernel_rfl) (by kernel_rfl) hSS ?_ ?_
                        rotate_left
                        · (intro w' hSw; (try dsimp only at hSw); go_simp; first | done | with_reducible rfl)
                        try simp (maxSteps := 100000000) only [List.getElem_toArray, List.getElem_cons_succ, List.getElem_cons_zero, Act.put, List.setIfInBounds_toArray, List.set_cons_zero, List.set_cons_succ]
                        refine Fx.take (i := 1) (v := ?_) _ rfl (by kernel_rfl) (by kernel_rfl) (by kernel_rfl) hSS ?_ ?_
                        rotate_left
                        · (intro w' hSw; (try dsimp only at hSw); go_simp; first | done | with_reducible rfl)
                        try simp (maxSteps := 100000000) only [List.getElem_toArray, List.getElem_cons_succ, List.getElem_cons_zero, Act.put, List.setIfInBounds_toArray, List.set_cons_zero, List.set_cons_succ]
                        refine Fx.take (i := 2) (v := ?_) _ rfl (by kernel_rfl) (by kernel_rfl) (by kernel_rfl) hSS ?_ ?_
                        rotate_left
                        · (intro w' hSw; (try dsimp only at hSw); go_simp; first | done | with_reducible rfl)
                        try simp (maxSteps := 100000000) only [List.getElem_toArray, List.getElem_cons_succ, List.getElem_cons_zero, Act.put, List.setIfInBounds_toArray, List.set_cons_zero, List.set_cons_succ]
                        refine Fx.take (i := 3) (v := ?_) _ rfl (by kernel_rfl) (by kernel_rfl) (by kernel_rfl) hSS ?_ ?_
                        rotate_left
                        · (intro w' hSw; (try dsimp only at hSw); go_simp; first | done | with_reducible rfl)
                        try simp (maxSteps := 100000000) only [List.getElem_toArray, List.getElem_cons_succ, List.getElem_cons_zero, Act.put, List.setIfInBounds_toArray, List.set_cons_zero, List.set_cons_succ]
                        refine Fx.take (i := 4) (v := ?_) _ rfl (by kernel_rfl) (by kernel_rfl) (by kernel_rfl) hSS ?_ ?_
                        rotate_left
                        · (intro w' hSw; (try dsimp only at hSw); go_simp; first | done | with_reducible rfl)
                        try simp (maxSteps := 100000000) only [List.getElem_toArray, List.getElem_cons_succ, List.getElem_cons_zero, Act.put, List.setIfInBounds_toArray, List.set_cons_zero, List.set_cons_succ]
                        refine Fx.take (i := 5) (v := ?_) _ rfl (by kernel_rfl) (by kernel_rfl) (by kernel_rfl) hSS ?_ ?_
                        rotate_left
                        · (intro w' hSw; (try dsimp only at hSw); go_simp; first | done | with_reducible rfl)
                        try simp (maxSteps := 100000000) only [List.getElem_toArray, List.getElem_cons_succ, List.getElem_cons_zero, Act.put, List.setIfInBounds_toArray, List.set_cons_zero, List.set_cons_succ]
                        refine Fx.take (i := 6) (v := ?_) _ rfl (by kernel_rfl) (by kernel_rfl) (by kernel_rfl) hSS ?_ ?_
                        rotate_left
                        · (intro w' hSw; (try dsimp only at hSw); go_simp; first | done | with_reducible rfl)
                        try simp (maxSteps := 100000000) only [List.getElem_toArray, List.getElem_cons_succ, List.getElem_cons_zero, Act.put, List.setIfInBounds_toArray, List.set_cons_zero, List.set_cons_succ]
                        refine Fx.take (i := 7) (v := ?_) _ rfl (by kernel_rfl) (by kernel_rfl) (by kernel_rfl) hSS ?_ ?_
                        rotate_left
                        · (intro w' hSw; (try dsimp only at hSw); go_simp; first | done | with_reducible rfl)
                        try simp (maxSteps := 100000000) only [List.getElem_toArray, List.getElem_cons_succ, List.getElem_cons_zero, Act.put, List.setIfInBounds_toArray, List.set_cons_zero, List.set_cons_succ]
                        refine Fx.take (i := 8) (v := ?_) _ rfl (by kernel_rfl) (by kernel_rfl) (by kernel_rfl) hSS ?_ ?_
                        rotate_left
                        · (intro w' hSw; (try dsimp only at hSw); go_simp; first | done | with_reducible rfl)
                        try simp (maxSteps := 100000000) only [List.getElem_toArray, List.getElem_cons_succ, List.getElem_cons_zero, Act.put, List.setIfInBounds_toArray, List.set_cons_zero, List.set_cons_succ]
                        refine Fx.take (i := 9) (v := ?_) _ rfl (by kernel_rfl) (by kernel_rfl) (by kernel_rfl) hSS ?_ ?_
                        rotate_left
                        · (intro w' hSw; (try dsimp only at hSw); go_simp; first | done | with_reducible rfl)
                        try simp (maxSteps := 100000000) only [List.getElem_toArray, List.getElem_cons_succ, List.getElem_cons_zero, Act.put, List.setIfInBounds_toArray, List.set_cons_zero, List.set_cons_succ]
                        refine Fx.take (i := 10) (v := ?_) _ rfl (by kernel_rfl) (by kernel_rfl) (by kernel_rfl) hSS ?_ ?_
                        rotate_left
                        · (intro w' hSw; (try dsimp only at hSw); go_simp; first | done | with_reducible rfl)
                        try simp (maxSteps := 100000000) only [List.getElem_toArray, List.getElem_cons_succ, List.getElem_cons_zero, Act.put, List.setIfInBounds_toArray, List.set_cons_zero, List.set_cons_succ]
                        refine Fx.take (i := 11) (v := ?_) _ rfl (by kernel_rfl) (by kernel_rfl) (by kernel_rfl) hSS ?_ ?_
                        rotate_left
                        · (intro w' hSw; (try dsimp only at hSw); go_simp; first | done | with_reducible rfl)
                        try simp (maxSteps := 100000000) only [List.getElem_toArray, List.getElem_cons_succ, List.getElem_cons_zero, Act.put, List.setIfInBounds_toArray, List.set_cons_zero, List.set_cons_succ]
                        refine Fx.take (i := 12) (v := ?_) _ rfl (by kernel_rfl) (by kernel_rfl) (by kernel_rfl) hSS ?_ ?_
                        rotate_left
                        · (intro w' hSw; (try dsimp only at hSw); go_simp; first | done | with_reducible rfl)
                        try simp (maxSteps := 100000000) only [List.getElem_toArray, List.getElem_cons_succ, List.getElem_cons_zero, Act.put, List.setIfInBounds_toArray, List.set_cons_zero, List.set_cons_succ]
                        refine Fx.take (i := 13) (v := ?_) _ rfl (by kernel_rfl) (by kernel_rfl) (by kernel_rfl) hSS ?_ ?_
                        rotate_left
                        · (intro w' hSw; (try dsimp only at hSw); go_simp; first | done | with_reducible rfl)
                        try simp (maxSteps := 100000000) only [List.getElem_toArray, List.getElem_cons_succ, List.getElem_cons_zero, Act.put, List.setIfInBounds_toArray, List.set_cons_zero, List.set_cons_succ]
                        refine Fx.take (i := 14) (v := ?_) _ rfl (by kernel_rfl) (by kernel_rfl) (by kernel_rfl) hSS ?_ ?_
                        rotate_left
                        · (intro w' hSw; (try dsimp only at hSw); go_simp; first | done | with_reducible rfl)
                        try simp (maxSteps := 100000000) only [List.getElem_toArray, List.getElem_cons_succ, List.getElem_cons_zero, Act.put, List.setIfInBounds_toArray, List.set_cons_zero, List.set_cons_succ]
                        refine Fx.take (i := 15) (v := ?_) _ rfl (by kernel_rfl) (by kernel_rfl) (by kernel_rfl) hSS ?_ ?_
                        rotate_left
                        · (intro w' hSw; (try dsimp only at hSw); go_simp; first | done | with_reducible rfl)
                        try simp (maxSteps := 100000000) only [List.getElem_toArray, List.getElem_cons_succ, List.getElem_cons_zero, Act.put, List.setIfInBounds_toArray, List.set_cons_zero, List.set_cons_succ]
                        refine Fx.take (i := 16) (v := ?_) _ rfl (by kernel_rfl) (by kernel_rfl) (by kernel_rfl) hSS ?_ ?_
                        rotate_left
                        · (intro w' hSw; (try dsimp only at hSw); go_simp; first | done | with_reducible rfl)
                        try simp (maxSteps := 100000000) only [List.getElem_toArray, List.getElem_cons_succ, List.getElem_cons_zero, Act.put, List.setIfInBounds_toArray, List.set_cons_zero, List.set_cons_succ]
                        refine Fx.take (i := 17) (v := ?_) _ rfl (by kernel_rfl) (by kernel_rfl) (by kernel_rfl) hSS ?_ ?_
                        rotate_left
                        · (intro w' hSw; (try dsimp only at hSw); go_simp; first | done | with_reducible rfl)
                        try simp (maxSteps := 100000000) only [List.getElem_toArray, List.getElem_cons_succ, List.getElem_cons_zero, Act.put, List.setIfInBounds_toArray, List.set_cons_zero, List.set_cons_succ]
                        refine Fx.take (i := 18) (v := ?_) _ rfl (by kernel_rfl) (by kernel_rfl) (by kernel_rfl) hSS ?_ ?_
                        rotate_left
                        · (intro w' hSw; (try dsimp only at hSw); go_simp; first | done | with_reducible rfl)
                        try simp (maxSteps := 100000000) only [List.getElem_toArray, List.getElem_cons_succ, List.getElem_cons_zero, Act.put, List.setIfInBounds_toArray, List.set_cons_zero, List.set_cons_succ]
                        refine Fx.take (i := 19) (v := ?_) _ rfl (by kernel_rfl) (by kernel_rfl) (by kernel_rfl) hSS ?_ ?_
                        rotate_left
                        · (intro w' hSw; (try dsimp only at hSw); go_simp; first | done | with_reducible rfl)
                        try simp (maxSteps := 100000000) only [List.getElem_toArray, List.getElem_cons_succ, List.getElem_cons_zero, Act.put, List.setIfInBounds_toArray, List.set_cons_zero, List.set_cons_succ]
                        refine Fx.take (i := 20) (v := ?_) _ rfl (by kernel_rfl) (by kernel_rfl) (by kernel_rfl) hSS ?_ ?_
                        rotate_left
                        · (intro w' hSw; (try dsimp only at hSw); go_simp; first | done | with_reducible rfl)
                        try simp (maxSteps := 100000000) only [List.getElem_toArray, List.getElem_cons_succ, List.getElem_cons_zero, Act.put, List.setIfInBounds_toArray, List.set_cons_zero, List.set_cons_succ]
                        refine Fx.take (i := 21) (v := ?_) _ rfl (by kernel_rfl) (by kernel_rfl) (by kernel_rfl) hSS ?_ ?_
                        rotate_left
                        · (intro w' hSw; (try dsimp only at hSw); go_simp; first | done | with_reducible rfl)
                        try simp (maxSteps := 100000000) only [List.getElem_toArray, List.getElem_cons_succ, List.getElem_cons_zero, Act.put, List.setIfInBounds_toArray, List.set_cons_zero, List.set_cons_succ]
                        refine Fx.take (i := 22) (v := ?_) _ rfl (by kernel_rfl) (by kernel_rfl) (by kernel_rfl) hSS ?_ ?_
                        rotate_left
                        · (intro w' hSw; (try dsimp only at hSw); go_simp; first | done | with_reducible rfl)
                        try simp (maxSteps := 100000000) only [List.getElem_toArray, List.getElem_cons_succ, List.getElem_cons_zero, Act.put, List.setIfInBounds_toArray, List.set_cons_zero, List.set_cons_succ]
                        refine Fx.take (i := 23) (v := ?_) _ rfl (by kernel_rfl) (by kernel_rfl) (by kernel_rfl) hSS ?_ ?_
                        rotate_left
                        · (intro w' hSw; (try dsimp only at hSw); go_simp; first | done | with_reducible rfl)
                        try simp (maxSteps := 100000000) only [List.getElem_toArray, List.getElem_cons_succ, List.getElem_cons_zero, Act.put, List.setIfInBounds_toArray, List.set_cons_zero, List.set_cons_succ]
                        refine Fx.take (i := 24) (v := ?_) _ rfl (by kernel_rfl) (by kernel_rfl) (by kernel_rfl) hSS ?_ ?_
                        rotate_left
                        · (intro w' hSw; (try dsimp only at hSw); go_simp; first | done | with_reducible rfl)
                        try simp (maxSteps := 100000000) only [List.getElem_toArray, List.getElem_cons_succ, List.getElem_cons_zero, Act.put, List.setIfInBounds_toArray, List.set_cons_zero, List.set_cons_succ]
                        refine Fx.take (i := 25) (v := ?_) _ rfl (by kernel_rfl) (by kernel_rfl) (by kernel_rfl) hSS ?_ ?_
                        rotate_left
                        · (intro w' hSw; (try dsimp only at hSw); go_simp; first | done | with_reducible rfl)
                        try simp (maxSteps := 100000000) only [List.getElem_toArray, List.getElem_cons_succ, List.getElem_cons_zero, Act.put, List.setIfInBounds_toArray, List.set_cons_zero, List.set_cons_succ]
                        refine Fx.take (i := 26) (v := ?_) _ rfl (by kernel_rfl) (by kernel_rfl) (by kernel_rfl) hSS ?_ ?_
                        rotate_left
                        · (intro w' hSw; (try dsimp only at hSw); go_simp; first | done | with_reducible rfl)
                        try simp (maxSteps := 100000000) only [List.getElem_toArray, List.getElem_cons_succ, List.getElem_cons_zero, Act.put, List.setIfInBounds_toArray, List.set_cons_zero, List.set_cons_succ]
                        refine Fx.take (i := 27) (v := ?_) _ rfl (by kernel_rfl) (by kernel_rfl) (by kernel_rfl) hSS ?_ ?_
                        rotate_left
                        · (intro w' hSw; (try dsimp only at hSw); go_simp; first | done | with_reducible rfl)
                        try simp (maxSteps := 100000000) only [List.getElem_toArray, List.getElem_cons_succ, List.getElem_cons_zero, Act.put, List.setIfInBounds_toArray, List.set_cons_zero, List.set_cons_succ]
                        refine Fx.take (i := 28) (v := ?_) _ rfl (by kernel_rfl) (by kernel_rfl) (by kernel_rfl) hSS ?_ ?_
                        rotate_left
                        · (intro w' hSw; (try dsimp only at hSw); go_simp; first | done | with_reducible rfl)
                        try simp (maxSteps := 100000000) only [List.getElem_toArray, List.getElem_cons_succ, List.getElem_cons_zero, Act.put, List.setIfInBounds_toArray, List.set_cons_zero, List.set_cons_succ]
                        refine Fx.take (i := 29) (v := ?_) _ rfl (by kernel_rfl) (by kernel_rfl) (by kernel_rfl) hSS ?_ ?_
                        rotate_left
                        · (intro w' hSw; (try dsimp only at hSw); go_simp; first | done | with_reducible rfl)
                        try simp (maxSteps := 100000000) only [List.getElem_toArray, List.getElem_cons_succ, List.getElem_cons_zero, Act.put, List.setIfInBounds_toArray, List.set_cons_zero, List.set_cons_succ]
                        refine Fx.take (i := 30) (v := ?_) _ rfl (by kernel_rfl) (by kernel_rfl) (by kernel_rfl) hSS ?_ ?_
                        rotate_left
                        · (intro w' hSw; (try dsimp only at hSw); go_simp; first | done | with_reducible rfl)
                        try simp (maxSteps := 100000000) only [List.getElem_toArray, List.getElem_cons_succ, List.getElem_cons_zero, Act.put, List.setIfInBounds_toArray, List.set_cons_zero, List.set_cons_succ]
                        refine Fx.take (i := 31) (v := ?_) _ rfl (by kernel_rfl) (by kernel_rfl) (by kernel_rfl) hSS ?_ ?_
                        rotate_left
                        · (intro w' hSw; (try dsimp only at hSw); go_simp; first | done | with_reducible rfl)
                        try simp (maxSteps := 100000000) only [List.getElem_toArray, List.getElem_cons_succ, List.getElem_cons_zero, Act.put, List.setIfInBounds_toArray, List.set_cons_zero, List.set_cons_succ]
                        refine Fx.take (i := 32) (v := ?_) _ rfl (by kernel_rfl) (by kernel_rfl) (by kernel_rfl) hSS ?_ ?_
                        rotate_left
                        · (intro w' hSw; (try dsimp only at hSw); go_simp; first | done | with_reducible rfl)
                        try simp (maxSteps := 100000000) only [List.getElem_toArray, List.getElem_cons_succ, List.getElem_cons_zero, Act.put, List.setIfInBounds_toArray, List.set_cons_zero, List.set_cons_succ]
                        refine Fx.take (i := 33) (v := ?_) _ rfl (by kernel_rfl) (by kernel_rfl) (by kernel_rfl) hSS ?_ ?_
                        rotate_left
                        · (intro w' hSw; (try dsimp only at hSw); go_simp; first | done | with_reducible rfl)
                        try simp (maxSteps := 100000000) only [List.getElem_toArray, List.getElem_cons_succ, List.getElem_cons_zero, Act.put, List.setIfInBounds_toArray, List.set_cons_zero, List.set_cons_succ]
                        refine Fx.take (i := 34) (v := ?_) _ rfl (by kernel_rfl) (by kernel_rfl) (by kernel_rfl) hSS ?_ ?_
                        rotate_left
                        · (intro w' hSw; (try dsimp only at hSw); go_simp; first | done | with_reducible rfl)
                        try simp (maxSteps := 100000000) only [List.getElem_toArray, List.getElem_cons_succ, List.getElem_cons_zero, Act.put, List.setIfInBounds_toArray, List.set_cons_zero, List.set_cons_succ]
                        refine Fx.take (i := 35) (v := ?_) _ rfl (by kernel_rfl) (by kernel_rfl) (by kernel_rfl) hSS ?_ ?_
                        rotate_left
                        · (intro w' hSw; (try dsimp only at hSw); go_simp; first | done | with_reducible rfl)
                        try simp (maxSteps := 100000000) only [List.getElem_toArray, List.getElem_cons_succ, List.getElem_cons_zero, Act.put, List.setIfInBounds_toArray, List.set_cons_zero, List.set_cons_succ]
                        refine Fx.take (i := 36) (v := ?_) _ rfl (by kernel_rfl) (by kernel_rfl) (by kernel_rfl) hSS ?_ ?_
                        rotate_left
                        · (intro w' hSw; (try dsimp only at hSw); go_simp; first | done | with_reducible rfl)
                        try simp (maxSteps := 100000000) only [List.getElem_toArray, List.getElem_cons_succ, List.getElem_cons_zero, Act.put, List.setIfInBounds_toArray, List.set_cons_zero, List.set_cons_succ]
                        refine Fx.take (i := 37) (v := ?_) _ rfl (by kernel_rfl) (by kernel_rfl) (by kernel_rfl) hSS ?_ ?_
                        rotate_left
                        · (intro w' hSw; (try dsimp only at hSw); go_simp; first | done | with_reducible rfl)
                        try simp (maxSteps := 100000000) only [List.getElem_toArray, List.getElem_cons_succ, List.getElem_cons_zero, Act.put, List.setIfInBounds_toArray, List.set_cons_zero, List.set_cons_succ]
                        refine Fx.take (i := 38) (v := ?_) _ rfl (by kernel_rfl) (by kernel_rfl) (by kernel_rfl) hSS ?_ ?_
                        rotate_left
                        · (intro w' hSw; (try dsimp only at hSw); go_simp; first | done | with_reducible rfl)
                        try simp (maxSteps := 100000000) only [List.getElem_toArray, List.getElem_cons_succ, List.getElem_cons_zero, Act.put, List.setIfInBounds_toArray, List.set_cons_zero, List.set_cons_succ]
                        refine Fx.take (i := 39) (v := ?_) _ rfl (by kernel_rfl) (by kernel_rfl) (by kernel_rfl) hSS ?_ ?_
                        rotate_left
                        · (intro w' hSw; (try dsimp only at hSw); go_simp; first | done | with_reducible rfl)
                        try simp (maxSteps := 100000000) only [List.getElem_toArray, List.getElem_cons_succ, List.getElem_cons_zero, Act.put, List.setIfInBounds_toArray, List.set_cons_zero, List.set_cons_succ]
                        refine Fx.take (i := 40) (v := ?_) _ rfl (by kernel_rfl) (by kernel_rfl) (by kernel_rfl) hSS ?_ ?_
                        rotate_left
                        · (intro w' hSw; (try dsimp only at hSw); go_simp; first | done | with_reducible rfl)
                        try simp (maxSteps := 100000000) only [List.getElem_toArray, List.getElem_cons_succ, List.getElem_cons_zero, Act.put, List.setIfInBounds_toArray, List.set_cons_zero, List.set_cons_succ]
                        refine Fx.take (i := 41) (v := ?_) _ rfl (by kernel_rfl) (by kernel_rfl) (by kernel_rfl) hSS ?_ ?_
                        rotate_left
                        · (intro w' hSw; (try dsimp only at hSw); go_simp; first | done | with_reducible rfl)
                        try simp (maxSteps := 100000000) only [List.getElem_toArray, List.getElem_cons_succ, List.getElem_cons_zero, Act.put, List.setIfInBounds_toArray, List.set_cons_zero, List.set_cons_succ]
                        refine Fx.take (i := 42) (v := ?_) _ rfl (by kernel_rfl) (by kernel_rfl) (by kernel_rfl) hSS ?_ ?_
                        rotate_left
                        · (intro w' hSw; (try dsimp only at hSw); go_simp; first | done | with_reducible rfl)
                        try simp (maxSteps := 100000000) only [List.getElem_toArray, List.getElem_cons_succ, List.getElem_cons_zero, Act.put, List.setIfInBounds_toArray, List.set_cons_zero, List.set_cons_succ]
                        refine Fx.take (i := 43) (v := ?_) _ rfl (by kernel_rfl) (by kernel_rfl) (by kernel_rfl) hSS ?_ ?_
                        rotate_left
                        · (intro w' hSw; (try dsimp only at hSw); go_simp; first | done | with_reducible rfl)
                        try simp (maxSteps := 100000000) only [List.getElem_toArray, List.getElem_cons_succ, List.getElem_cons_zero, Act.put, List.setIfInBounds_toArray, List.set_cons_zero, List.set_cons_succ]
                        refine Fx.take (i := 44) (v := ?_) _ rfl (by kernel_rfl) (by kernel_rfl) (by kernel_rfl) hSS ?_ ?_
                        rotate_left
                        · (intro w' hSw; (try dsimp only at hSw); go_simp; first | done | with_reducible rfl)
                        try simp (maxSteps := 100000000) only [List.getElem_toArray, List.getElem_cons_succ, List.getElem_cons_zero, Act.put, List.setIfInBounds_toArray, List.set_cons_zero, List.set_cons_succ]
                        refine Fx.take (i := 45) (v := ?_) _ rfl (by kernel_rfl) (by kernel_rfl) (by kernel_rfl) hSS ?_ ?_
                        rotate_left
                        · (intro w' hSw; (try dsimp only at hSw); go_simp; first | done | with_reducible rfl)
                        try simp (maxSteps := 100000000) only [List.getElem_toArray, List.getElem_cons_succ, List.getElem_cons_zero, Act.put, List.setIfInBounds_toArray, List.set_cons_zero, List.set_cons_succ]
                        refine Fx.take (i := 46) (v := ?_) _ rfl (by kernel_rfl) (by kernel_rfl) (by kernel_rfl) hSS ?_ ?_
                        rotate_left
                        · (intro w' hSw; (try dsimp only at hSw); go_simp; first | done | with_reducible rfl)
                        try simp (maxSteps := 100000000) only [List.getElem_toArray, List.getElem_cons_succ, List.getElem_cons_zero, Act.put, List.setIfInBounds_toArray, List.set_cons_zero, List.set_cons_succ]
                        refine Fx.take (i := 47) (v := ?_) _ rfl (by kernel_rfl) (by kernel_rfl) (by kernel_rfl) hSS ?_ ?_
                        rotate_left
                        · (intro w' hSw; (try dsimp only at hSw); go_simp; first | done | with_reducible rfl)
                        try simp (maxSteps := 100000000) only [List.getElem_toArray, List.getElem_cons_succ, List.getElem_cons_zero, Act.put, List.setIfInBounds_toArray, List.set_cons_zero, List.set_cons_succ]
                        refine Fx.take (i := 48) (v := ?_) _ rfl (by kernel_rfl) (by kernel_rfl) (by kernel_rfl) hSS ?_ ?_
                        rotate_left
                        · (intro w' hSw; (try dsimp only at hSw); go_simp; first | done | with_reducible rfl)
                        try simp (maxSteps := 100000000) only [List.getElem_toArray, List.getElem_cons_succ, List.getElem_cons_zero, Act.put, List.setIfInBounds_toArray, List.set_cons_zero, List.set_cons_succ]
                        refine Fx.take (i := 49) (v := ?_) _ rfl (by kernel_rfl) (by kernel_rfl) (by kernel_rfl) hSS ?_ ?_
                        rotate_left
                        · (intro w' hSw; (try dsimp only at hSw); go_simp; first | done | with_reducible rfl)
                        try simp (maxSteps := 100000000) only [List.getElem_toArray, List.getElem_cons_succ, List.getElem_cons_zero, Act.put, List.setIfInBounds_toArray, List.set_cons_zero, List.set_cons_succ]
                        refine Fx.take (i := 50) (v := ?_) _ rfl (by kernel_rfl) (by kernel_rfl) (by kernel_rfl) hSS ?_ ?_
                        rotate_left
                        · (intro w' hSw; (try dsimp only at hSw); go_simp; first | done | with_reducible rfl)
                        try simp (maxSteps := 100000000) only [List.getElem_toArray, List.getElem_cons_succ, List.getElem_cons_zero, Act.put, List.setIfInBounds_toArray, List.set_cons_zero, List.set_cons_succ]
                        refine Fx.take (i := 51) (v := ?_) _ rfl (by kernel_rfl) (by kernel_rfl) (by kernel_rfl) hSS ?_ ?_
                        rotate_left
                        · (intro w' hSw; (try dsimp only at hSw); go_simp; first | done | with_reducible rfl)
                        try simp (maxSteps := 100000000) only [List.getElem_toArray, List.getElem_cons_succ, List.getElem_cons_zero, Act.put, List.setIfInBounds_toArray, List.set_cons_zero, List.set_cons_succ]
                        refine Fx.take (i := 52) (v := ?_) _ rfl (by kernel_rfl) (by kernel_rfl) (by kernel_rfl) hSS ?_ ?_
                        rotate_left
                        · (intro w' hSw; (try dsimp only at hSw); go_simp; first | done | with_reducible rfl)
                        try simp (maxSteps := 100000000) only [List.getElem_toArray, List.getElem_cons_succ, List.getElem_cons_zero, Act.put, List.setIfInBounds_toArray, List.set_cons_zero, List.set_cons_succ]
                        refine Fx.take (i := 53) (v := ?_) _ rfl (by kernel_rfl) (by kernel_rfl) (by kernel_rfl) hSS ?_ ?_
                        rotate_left
                        · (intro w' hSw; (try dsimp only at hSw); go_simp; first | done | with_reducible rfl)
                        try simp (maxSteps := 100000000) only [List.getElem_toArray, List.getElem_cons_succ, List.getElem_cons_zero, Act.put, List.setIfInBounds_toArray, List.set_cons_zero, List.set_cons_succ]
                        refine Fx.take (i := 54) (v := ?_) _ rfl (by kernel_rfl) (by kernel_rfl) (by kernel_rfl) hSS ?_ ?_
                        rotate_left
                        · (intro w' hSw; (try dsimp only at hSw); go_simp; first | done | with_reducible rfl)
                        try simp (maxSteps := 100000000) only [List.getElem_toArray, List.getElem_cons_succ, List.getElem_cons_zero, Act.put, List.setIfInBounds_toArray, List.set_cons_zero, List.set_cons_succ]
                        refine Fx.take (i := 55) (v := ?_) _ rfl (by kernel_rfl) (by kernel_rfl) (by kernel_rfl) hSS ?_ ?_
                        rotate_left
                        · (intro w' hSw; (try dsimp only at hSw); go_simp; first | done | with_reducible rfl)
                        try simp (maxSteps := 100000000) only [List.getElem_toArray, List.getElem_cons_succ, List.getElem_cons_zero, Act.put, List.setIfInBounds_toArray, List.set_cons_zero, List.set_cons_succ]
                        refine Fx.take (i := 56) (v := ?_) _ rfl (by kernel_rfl) (by kernel_rfl) (by kernel_rfl) hSS ?_ ?_
                        rotate_left
                        · (intro w' hSw; (try dsimp only at hSw); go_simp; first | done | with_reducible rfl)
                        try simp (maxSteps := 100000000) only [List.getElem_toArray, List.getElem_cons_succ, List.getElem_cons_zero, Act.put, List.setIfInBounds_toArray, List.set_cons_zero, List.set_cons_succ]
                        refine Fx.take (i := 57) (v := ?_) _ rfl (by kernel_rfl) (by kernel_rfl) (by kernel_rfl) hSS ?_ ?_
                        rotate_left
                        · (intro w' hSw; (try dsimp only at hSw); go_simp; first | done | with_reducible rfl)
                        try simp (maxSteps := 100000000) only [List.getElem_toArray, List.getElem_cons_succ, List.getElem_cons_zero, Act.put, List.setIfInBounds_toArray, List.set_cons_zero, List.set_cons_succ]
                        refine Fx.take (i := 58) (v := ?_) _ rfl (by kernel_rfl) (by kernel_rfl) (by kernel_rfl) hSS ?_ ?_
                        rotate_left
                        · (intro w' hSw; (try dsimp only at hSw); go_simp; first | done | with_reducible rfl)
                        try simp (maxSteps := 100000000) only [List.getElem_toArray, List.getElem_cons_succ, List.getElem_cons_zero, Act.put, List.setIfInBounds_toArray, List.set_cons_zero, List.set_cons_succ]
                        refine Fx.take (i := 59) (v := ?_) _ rfl (by kernel_rfl) (by kernel_rfl) (by kernel_rfl) hSS ?_ ?_
                        rotate_left
                        · (intro w' hSw; (try dsimp only at hSw); go_simp; first | done | with_reducible rfl)
                        try simp (maxSteps := 100000000) only [List.getElem_toArray, List.getElem_cons_succ, List.getElem_cons_zero, Act.put, List.setIfInBounds_toArray, List.set_cons_zero, List.set_cons_succ]
                        refine Fx.take (i := 60) (v := ?_) _ rfl (by kernel_rfl) (by kernel_rfl) (by kernel_rfl) hSS ?_ ?_
                        rotate_left
                        · (intro w' hSw; (try dsimp only at hSw); go_simp; first | done | with_reducible rfl)
                        try simp (maxSteps := 100000000) only [List.getElem_toArray, List.getElem_cons_succ, List.getElem_cons_zero, Act.put, List.setIfInBounds_toArray, List.set_cons_zero, List.set_cons_succ]
                        refine Fx.take (i := 61) (v := ?_) _ rfl (by kernel_rfl) (by kernel_rfl) (by kernel_rfl) hSS ?_ ?_
                        rotate_left
                        · (intro w' hSw; (try dsimp only at hSw); go_simp; first | done | with_reducible rfl)
                        try simp (maxSteps := 100000000) only [List.getElem_toArray, List.getElem_cons_succ, List.getElem_cons_zero, Act.put, List.setIfInBounds_toArray, List.set_cons_zero, List.set_cons_succ]
                        refine Fx.take (i := 62) (v := ?_) _ rfl (by kernel_rfl) (by kernel_rfl) (by kernel_rfl) hSS ?_ ?_
                        rotate_left
                        · (intro w' hSw; (try dsimp only at hSw); go_simp; first | done | with_reducible rfl)
                        try simp (maxSteps := 100000000) only [List.getElem_toArray, List.getElem_cons_succ, List.getElem_cons_zero, Act.put, List.setIfInBounds_toArray, List.set_cons_zero, List.set_cons_succ]
                        refine Fx.take (i := 63) (v := ?_) _ rfl (by kernel_rfl) (by kernel_rfl) (by kernel_rfl) hSS ?_ ?_
                        rotate_left
                        · (intro w' hSw; (try dsimp only at hSw); go_simp; first | done | with_reducible rfl)
                        try simp (maxSteps := 100000000) only [List.getElem_toArray, List.getElem_cons_succ, List.getElem_cons_zero, Act.put, List.setIfInBounds_toArray, List.set_cons_zero, List.set_cons_succ]
                        refine Fx.take (i := 64) (v := ?_) _ rfl (by kernel_rfl) (by kernel_rfl) (by kernel_rfl) hSS ?_ ?_
                        rotate_left
                        · (intro w' hSw; (try dsimp only at hSw); go_simp; first | done | with_reducible rfl)
                        try simp (maxSteps := 100000000) only [List.getElem_toArray, List.getElem_cons_succ, List.getElem_cons_zero, Act.put, List.setIfInBounds_toArray, List.set_cons_zero, List.set_cons_succ]
                        refine Fx.take (i := 65) (v := ?_) _ rfl (by kernel_rfl) (by kernel_rfl) (by kernel_rfl) hSS ?_ ?_
                        rotate_left
                        · (intro w' hSw; (try dsimp only at hSw); go_simp; first | done | with_reducible rfl)
                        try simp (maxSteps := 100000000) only [List.getElem_toArray, List.getElem_cons_succ, List.getElem_cons_zero, Act.put, List.setIfInBounds_toArray, List.set_cons_zero, List.set_cons_succ]
                        refine Fx.take (i := 66) (v := ?_) _ rfl (by kernel_rfl) (by kernel_rfl) (by kernel_rfl) hSS ?_ ?_
                        rotate_left
                        · (intro w' hSw; (try dsimp only at hSw); go_simp; first | done | with_reducible rfl)
                        try simp (maxSteps := 100000000) only [List.getElem_toArray, List.getElem_cons_succ, List.getElem_cons_zero, Act.put, List.setIfInBounds_toArray, List.set_cons_zero, List.set_cons_succ]
                        refine Fx.take (i := 67) (v := ?_) _ rfl (by kernel_rfl) (by kernel_rfl) (by kernel_rfl) hSS ?_ ?_
                        rotate_left
                        · (intro w' hSw; (try dsimp only at hSw); go_simp; first | done | with_reducible rfl)
                        try simp (maxSteps := 100000000) only [List.getElem_toArray, List.getElem_cons_succ, List.getElem_cons_zero, Act.put, List.setIfInBounds_toArray, List.set_cons_zero, List.set_cons_succ]
                        refine Fx.take (i := 68) (v := ?_) _ rfl (by kernel_rfl) (by kernel_rfl) (by kernel_rfl) hSS ?_ ?_
                        rotate_left
                        · (intro w' hSw; (try dsimp only at hSw); go_simp; first | done | with_reducible rfl)
                        try simp (maxSteps := 100000000) only [List.getElem_toArray, List.getElem_cons_succ, List.getElem_cons_zero, Act.put, List.setIfInBounds_toArray, List.set_cons_zero, List.set_cons_succ]
                        refine Fx.take (i := 69) (v := ?_) _ rfl (by kernel_rfl) (by kernel_rfl) (by kernel_rfl) hSS ?_ ?_
                        rotate_left
                        · (intro w' hSw; (try dsimp only at hSw); go_simp; first | done | with_reducible rfl)
                        try simp (maxSteps := 100000000) only [List.getElem_toArray, List.getElem_cons_succ, List.getElem_cons_zero, Act.put, List.setIfInBounds_toArray, List.set_cons_zero, List.set_cons_succ]
                        refine Fx.take (i := 70) (v := ?_) _ rfl (by kernel_rfl) (by kernel_rfl) (by kernel_rfl) hSS ?_ ?_
                        rotate_left
                        · (intro w' hSw; (try dsimp only at hSw); go_simp; first | done | with_reducible rfl)
                        try simp (maxSteps := 100000000) only [List.getElem_toArray, List.getElem_cons_succ, List.getElem_cons_zero, Act.put, List.setIfInBounds_toArray, List.set_cons_zero, List.set_cons_succ]
                        refine Fx.done 0 (by kernel_rfl) (by kernel_rfl) (fun w4 hC => ?_)
                        have HN5 := Lib.hid (HEND.out w4 (HMX.out.trans0 hC))
                        clear hC hSS HEND HMX HX x0 x1 c0 s0
                        go_wp2_with fail
                        go_roundw
                        case rel => exact ⟨(m + 1) + 1, by omega, by go_num, HN5.out.1, HN5.out.2.1, HN5.out.2.2⟩
                        case measure => first | (simp [intOf]; done) | (simp [intOf]; omega)
                · have hge4 : (O.length : Int) ≤ i4 := by omega
                  have hfin := Lib.hid HM.out.below0
                  have hle : ((O.length : Int) == (c : Int)) = true := by rw [HCN.out]; simp
                  clear HM HI HB
                  go_wp2_with fail
                  go_ret
                  exact ⟨rfl, hfin.out⟩
end Go.Proofs.Ytceocpohdckkoaa.Ag
