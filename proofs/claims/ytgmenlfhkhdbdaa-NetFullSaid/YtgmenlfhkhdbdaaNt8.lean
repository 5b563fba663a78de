/- The law NetFull. -/
import Derived.Test.YtgmenlfhkhdbdaaNt7
namespace Go.Proofs.Ytgmenlfhkhdbdaa.Nt
open Go.RowKit Mem Nm Ra
open Ag (It AgW AgT Keep insI woI dueI leftI hasI AddP ItAt soon)
set_option linter.unusedSimpArgs false
set_option linter.unusedVariables false
set_option maxRecDepth 100000

theorem ins_last {S : List It} {x : It} (h : ∀ s ∈ S, soon s x = true) : insI S x = S ++ [x] := by
  unfold insI
  rw [show S.takeWhile (fun s => soon s x) = S from by
    induction S with
    | nil => rfl
    | cons a S ih => rw [List.takeWhile_cons, if_pos (h a (by simp)), ih (fun s hs => h s (by simp [hs]))],
    show S.dropWhile (fun s => soon s x) = [] from by
    induction S with
    | nil => rfl
    | cons a S ih => rw [List.dropWhile_cons, if_pos (h a (by simp)), ih (fun s hs => h s (by simp [hs]))]]
theorem ins_first {S : List It} {x : It} (h : ∀ s ∈ S, soon s x = false) : insI S x = x :: S := by
  unfold insI
  cases S with
  | nil => rfl
  | cons a S => rw [List.takeWhile_cons, List.dropWhile_cons, if_neg (by rw [h a (by simp)]; simp), if_neg (by rw [h a (by simp)]; simp)]; rfl
def fullS (i : Nat) : List It := (List.range i).map (fun (k : Nat) => ((k : Int) + 5, (k : Int) + 1, 0))
theorem fullS_len (i : Nat) : (fullS i).length = i := by unfold fullS; simp
theorem fullS_mem {i : Nat} {s : It} : s ∈ fullS i ↔ ∃ k : Nat, k < i ∧ s = ((k : Int) + 5, (k : Int) + 1, 0) := by
  unfold fullS
  rw [List.mem_map]
  constructor
  · rintro ⟨k, hk, rfl⟩; exact ⟨k, List.mem_range.1 hk, rfl⟩
  · rintro ⟨k, hk, rfl⟩; exact ⟨k, List.mem_range.2 hk, rfl⟩
theorem fullS_ins (i : Nat) : insI (fullS i) ((i : Int) + 5, (i : Int) + 1, 0) = fullS (i + 1) := by
  rw [ins_last (fun s hs => by
    obtain ⟨k, hk, rfl⟩ := fullS_mem.1 hs
    rw [Ag.soon_iff]
    left
    show (k : Int) + 5 < i + 5
    omega)]
  unfold fullS
  rw [List.range_succ, List.map_append]
  rfl
def fullM (i : Nat) : Int → Option Ms := fun k => if 1 ≤ k ∧ k ≤ (i : Int) then some (askM 0 1 1) else none
theorem fullM_set (i : Nat) : setM (fullM i) ((i : Int) + 1) (askM 0 1 1) = fullM (i + 1) := by
  funext k
  unfold setM fullM
  by_cases h : k = (i : Int) + 1
  · rw [if_pos h, if_pos (by omega)]
  · rw [if_neg h]
    by_cases h2 : 1 ≤ k ∧ k ≤ (i : Int)
    · rw [if_pos h2, if_pos (by omega)]
    · rw [if_neg h2, if_neg (by omega)]
theorem full_has {L : Int} (h : 1 ≤ L ∧ L ≤ 4096) : hasI (fullS 4096) L = true := by
  rw [Ag.hasI_iff]
  exact ⟨(L + 4, L, 0), fullS_mem.2 ⟨(L - 1).toNat, by omega, by
    have : ((L - 1).toNat : Int) = L - 1 := by omega
    rw [this]
    congr 1
    · omega
    · congr 1; omega⟩, rfl⟩
theorem wo_has (S : List It) (L : Int) : hasI (woI S L) L = false := by
  unfold hasI woI
  rw [List.any_eq_false]
  intro s hs
  have := (List.mem_filter.1 hs).2
  simpa using this
theorem full_wo {last L : Int} (hok : Ag.Ok (fullS 4096) last) (h : 1 ≤ L ∧ L ≤ 4096) : (woI (fullS 4096) L).length = 4095 := by
  obtain ⟨s, hs, rfl⟩ := Ag.hasI_iff.1 (full_has h)
  have hp := Ag.wo_perm hok (List.perm_cons_erase hs).symm
  rw [← hp.length_eq, List.length_erase_of_mem hs, fullS_len]
theorem full_late {L : Int} {s : It} (h : s ∈ woI (fullS 4096) L) : 5 ≤ s.1 := by
  obtain ⟨k, hk, rfl⟩ := fullS_mem.1 (List.mem_filter.1 h).1
  show (5 : Int) ≤ k + 5
  omega
theorem late_due {S : List It} (h : ∀ s ∈ S, 5 ≤ s.1) : dueI S 0 = [] ∧ leftI S 0 = S := by
  unfold dueI leftI
  cases S with
  | nil => exact ⟨rfl, rfl⟩
  | cons a S =>
    have := h a (by simp)
    rw [List.takeWhile_cons, List.dropWhile_cons, if_neg (by simp; omega), if_neg (by simp; omega)]
    exact ⟨rfl, rfl⟩
theorem wrap64_in (x : Int) (h : -9223372036854775808 ≤ x ∧ x ≤ 9223372036854775807) : wrap64 x = x := IntWalk.wrap64_in x h
set_option maxHeartbeats 16000000 in
theorem netFull_calls (w : World) (lose : Int) (hlo : (Lit.int .i64 lose).wf = true) :
    Calls Try.prog 5 #[.int .i64 lose] w fun e w' => e = .returned (.bool true) ∧ Below w.heap.size w w' := by
  have NC := Lib.hid (nnew_calls w)
  have AW := Lib.hid (fun w => awake_calls w)
  have AC := Lib.hid (fun w => ask_calls 0 1 1 w)
  have hck : checkB (askM 0 1 1) = true := by rw [ask_check 0 1 1 (by omega) (by omega) (by omega)]; rfl
  have HCK := Lib.hid hck
  clear hck
  go_enter Try.func5, Try.ntmps5
  go_wp2_with fail
  (with_reducible refine (NC.out).mono ?_)
  rintro e w1 ⟨g, ag, mb, rfl, hn1, _⟩
  have HN1 := Lib.hid hn1
  clear hn1 NC
  go_wp2_with fail
  (with_reducible refine (AW.out _).mono ?_)
  rintro e w2 ⟨rfl, hm2⟩
  have HN2 : Hid (NetW w w2 g ag mb ((0 : Nat) : Int) (fullS 0) 0 (fullM 0) noC) := Lib.hid (by
    have h := HN1.out.mod hm2
    rw [show fullM 0 = (fun _ => none) from by funext k; unfold fullM; rw [if_neg (by omega)]]
    exact h)
  clear hm2 HN1 AW
  go_wp2_with fail
  obtain ⟨wo, rfl⟩ : ∃ wo, wo = w2 := ⟨_, rfl⟩
  go_loopw [4] (fun vi wr => ∃ i : Nat, vi = .int .i64 (i : Int) ∧ i ≤ 4096 ∧ NetW w wr g ag mb (i : Int) (fullS i) i (fullM i) noC) (fun vi _ => 4097 - (intOf vi).toNat)
  case atStart => exact ⟨0, rfl, by omega, HN2.out⟩
  case round =>
    obtain ⟨i, rfl, hi, hn⟩ := hrel
    have HN := Lib.hid hn
    clear hn HN2
    by_cases hlt : i < 4096
    · have hlt' : (i : Int) < 4096 := by omega
      go_wp2_with fail
      (with_reducible refine (AC.out _).mono ?_)
      rintro e w3 ⟨rfl, hm3⟩
      have HN3 := Lib.hid (HN.out.mod hm3)
      clear hm3 HN
      have SC := Lib.hid (asend_calls w w3 g ag mb _ _ _ _ _ HN3.out (by omega) (by omega) (i : Int) 0 1 1 5)
      go_wp2_with fail
      (with_reducible refine (SC.out).mono ?_)
      rintro e w4 hsp
      obtain ⟨rfl, hn4, _⟩ := hsp.ok (inB_t.2 (by omega)) (inB_t.2 (by omega)) HCK.out rfl (by rw [fullS_len]; omega)
      rw [fullS_ins, fullM_set] at hn4
      have HN4 := Lib.hid hn4
      clear hsp hn4 SC HN3
      have hwi := IntWalk.i64_in ((i : Int) + 1) (by omega)
      go_wp2_with fail
      go_roundw
      case rel => exact ⟨i + 1, by go_num, by omega, by have := HN4.out; push_cast; exact this⟩
      case measure => simp [intOf]; omega
    · obtain rfl : i = 4096 := by omega
      go_wp2_with fail
      (with_reducible refine (AC.out _).mono ?_)
      rintro e w3 ⟨rfl, hm3⟩
      have HN3 := Lib.hid (HN.out.mod hm3)
      clear hm3 HN
      have SC := Lib.hid (asend_calls w w3 g ag mb _ _ _ _ _ HN3.out (by omega) (by omega) 0 0 1 1 0)
      go_wp2_with fail
      (with_reducible refine (SC.out).mono ?_)
      rintro e w4 hsp
      obtain ⟨rfl, hn4, _⟩ := hsp.full (inB_t.2 (by omega)) (inB_t.2 (by omega)) HCK.out rfl (by rw [fullS_len]; omega)
      have HN4 := Lib.hid hn4
      clear hsp hn4 SC HN3
      have TC := Lib.hid (twice_calls w w4 g ag mb _ _ _ _ _ HN4.out (by omega) (by omega) 1 (by omega) (by omega) 0 0)
      go_wp2_with fail
      (with_reducible refine (TC.out).mono ?_)
      rintro e w5 htp
      obtain ⟨rfl, hn5, _⟩ := SendP.full (m := askM 0 1 1) htp (inB_t.2 (by omega)) (inB_t.2 (by omega)) HCK.out rfl (by rw [fullS_len]; omega)
      have HN5 := Lib.hid hn5
      clear htp hn5 TC HN4
      go_upto_region 15 with (fail)
      obtain ⟨L, hL, hL1, hL2⟩ : ∃ L : Int, wrap64 ((wrap64 (lose.tmod 4096 + 4096)).tmod 4096 + 1) = L ∧ 1 ≤ L ∧ L ≤ 4096 := by
        have h1 := Int.tmod_lt_of_pos lose (b := 4096) (by omega)
        have h2 := Int.lt_tmod_of_pos lose (b := 4096) (by omega)
        rw [wrap64_in (lose.tmod 4096 + 4096) (by omega)]
        have h3 := Int.tmod_lt_of_pos (lose.tmod 4096 + 4096) (b := 4096) (by omega)
        have h4 := Int.tmod_nonneg (4096 : Int) (a := lose.tmod 4096 + 4096) (by omega)
        rw [wrap64_in _ (by omega)]
        exact ⟨_, rfl, by omega, by omega⟩
      rw [hL]
      clear hL
      have LC := Lib.hid (lose_calls w w5 g ag mb _ _ _ _ _ HN5.out L (by omega) (by omega))
      unfold LoseP at LC
      rw [full_has ⟨hL1, hL2⟩] at LC
      have HLen := Lib.hid (full_wo HN5.out.agw.ok ⟨hL1, hL2⟩)
      go_wp2_with fail
      (with_reducible refine (LC.out).mono ?_)
      rintro e w6 ⟨rfl, hn6, _⟩
      have HN6 := Lib.hid hn6
      clear hn6 LC HN5
      have LC := Lib.hid (lose_calls w w6 g ag mb _ _ _ _ _ HN6.out L (by omega) (by omega))
      unfold LoseP at LC
      rw [wo_has, Ag.wo_not (wo_has (fullS 4096) L)] at LC
      have HLT := Lib.hid (fun s (hs : s ∈ woI (fullS 4096) L) => full_late hs)
      generalize woI (fullS 4096) L = S2 at *
      go_wp2_with fail
      (with_reducible refine (LC.out).mono ?_)
      rintro e w7 ⟨rfl, hn7, _⟩
      have HN7 := Lib.hid hn7
      clear hn7 LC HN6
      generalize delM (delM (fullM 4096) L) L = M2 at *
      go_wp2_with fail
      (with_reducible refine (AC.out _).mono ?_)
      rintro e w8 ⟨rfl, hm8⟩
      have HN8 := Lib.hid (HN7.out.mod hm8)
      clear hm8 HN7
      have SC := Lib.hid (asend_calls w w8 g ag mb _ _ _ _ _ HN8.out (by omega) (by omega) 0 0 1 1 0)
      go_wp2_with fail
      (with_reducible refine (SC.out).mono ?_)
      rintro e w9 hsp
      obtain ⟨rfl, hn9, _⟩ := hsp.ok (inB_t.2 (by omega)) (inB_t.2 (by omega)) HCK.out rfl (by rw [HLen.out]; omega)
      rw [ins_first (fun s hs => by
        have := HLT.out s hs
        cases hb : soon s ((0 : Int) + 0, ((4096 : Nat) : Int) + 1, 0)
        · rfl
        · rw [Ag.soon_iff] at hb
          simp only at hb
          omega)] at hn9
      have HN9 : Hid (NetW w w9 g ag mb 4097 ((0, 4097, 0) :: S2) 4097 (setM M2 4097 (askM 0 1 1)) noC) := Lib.hid hn9
      clear hsp hn9 SC HN8
      obtain ⟨hd1, hd2⟩ := late_due (S := S2) HLT.out
      have hd3 : dueI ((0, 4097, 0) :: S2) 0 = [(0, 4097, 0)] := by
        unfold dueI at hd1 ⊢
        rw [List.takeWhile_cons, if_pos (by simp), hd1]
      have hd4 : leftI ((0, 4097, 0) :: S2) 0 = S2 := by
        unfold leftI at hd2 ⊢
        rw [List.dropWhile_cons, if_pos (by simp), hd2]
      have hd5 : (outM noC (setM M2 4097 (askM 0 1 1)) [(0, 4097, 0)]).length = 1 := rfl
      have DC := Lib.hid (duel_calls w w9 g ag mb 4097 _ _ _ _ HN9.out (by omega) 0 hd3 hd4 hd5)
      clear hd1 hd2 hd3 hd4 hd5
      have hlen : (S2.length : Int) = 4095 := by rw [HLen.out]; rfl
      have e97 : (((4096 : Nat) : Int) + 1) = 4097 := rfl
      rw [e97]
      go_wp2_with fail
      (with_reducible refine (DC.out).mono ?_)
      rintro e wa ⟨aa, ca, rfl, hna, _⟩
      have HNa := Lib.hid hna
      clear hna DC HN9
      have LN := Lib.hid (nlen_calls HNa.out)
      go_wp2_with fail
      (with_reducible refine (LN.out).mono ?_)
      rintro e wb ⟨rfl, rfl⟩
      have HB := Lib.hid HNa.out.md.below0
      go_wp2_with fail
      go_ret
      exact ⟨by rfl, HB.out⟩
end Go.Proofs.Ytgmenlfhkhdbdaa.Nt
