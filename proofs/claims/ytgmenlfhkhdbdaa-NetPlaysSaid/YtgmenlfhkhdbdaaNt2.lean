/- A net's Send. -/
import Derived.Test.YtgmenlfhkhdbdaaNt1
import Derived.Deep.DeepCutAuto
namespace Go.Proofs.Ytgmenlfhkhdbdaa.Nt
open Go.RowKit Mem Nm Ra
open Ag (It AgW AgT Keep insI woI dueI leftI hasI AddP)
set_option linter.unusedSimpArgs false
set_option linter.unusedVariables false
set_option maxRecDepth 100000

def SendP (w0 : World) (g ag mb : Nat) (last : Int) (S : List It) (n : Nat) (M : Int → Option Ms) (C : Nat → Nat → Bool) (now : Int) (m : Ms) (delay : Int) (w : World) (e : Ending) (w' : World) : Prop :=
  if (ixB now && (ixB delay && checkB m)) = true then
    if C m.frm.toNat m.dst.toNat = true then e = .returned (.tuple #[.int .i64 0, .int .i64 0]) ∧ NetW w0 w' g ag mb last S n M C ∧ KpN w w'
    else if 4096 ≤ S.length then e = .returned (.tuple #[.int .i64 0, .int .i64 7]) ∧ NetW w0 w' g ag mb last S n M C ∧ KpN w w'
    else e = .returned (.tuple #[.int .i64 (last + 1), .int .i64 0]) ∧ NetW w0 w' g ag mb (last + 1) (insI S (now + delay, last + 1, 0)) (n + 1) (setM M (last + 1) m) C ∧ KpN w w'
  else e = .returned (.tuple #[.int .i64 0, .int .i64 1]) ∧ NetW w0 w' g ag mb last S n M C ∧ KpN w w'
theorem alen7b : Try.prog.arrayLen 94 = 7 := by kernel_rfl
theorem ael7b : Try.prog.elem 94 = 4 := by kernel_rfl
theorem alen77 : Try.prog.arrayLen 95 = 7 := by kernel_rfl
theorem ael77 : Try.prog.elem 95 = 94 := by kernel_rfl
theorem ids_ins {S : List It} {M : Int → Option Ms} {last : Int} {m : Ms} {x : It} (hx : x.2.1 = last + 1) (h : ∀ k, (M k).isSome = true ↔ ∃ s ∈ S, s.2.1 = k) : ∀ k, (setM M (last + 1) m k).isSome = true ↔ ∃ s ∈ insI S x, s.2.1 = k := by
  intro k
  unfold setM
  by_cases hk : k = last + 1
  · rw [if_pos hk]
    exact ⟨fun _ => ⟨x, Ag.ins_mem.2 (.inr rfl), by rw [hx, hk]⟩, fun _ => rfl⟩
  · rw [if_neg hk, h k]
    constructor
    · rintro ⟨s, hs, e⟩
      exact ⟨s, Ag.ins_mem.2 (.inl hs), e⟩
    · rintro ⟨s, hs, e⟩
      rcases Ag.ins_mem.1 hs with h1 | h1
      · exact ⟨s, h1, e⟩
      · subst h1; exact absurd (e.symm.trans hx) hk
theorem ok_set {M : Int → Option Ms} {k : Int} {m : Ms} (hm : checkB m = true) (h : ∀ k m, M k = some m → checkB m = true) : ∀ j m', setM M k m j = some m' → checkB m' = true := by
  intro j m' hj
  unfold setM at hj
  by_cases e : j = k
  · rw [if_pos e] at hj; injection hj with hj; subst hj; exact hm
  · rw [if_neg e] at hj; exact h j m' hj
theorem map_set (M : Int → Option Ms) (k : Int) (m : Ms) : setT (fun j => (M j).map writeS) k (writeS m) = fun j => (setM M k m j).map writeS := by
  funext j
  unfold setT setM
  by_cases e : j = k
  · rw [if_pos e, if_pos e]; rfl
  · rw [if_neg e, if_neg e]
set_option maxHeartbeats 16000000 in
theorem send_calls (w0 w : World) (g ag mb : Nat) (last : Int) (S : List It) (n : Nat) (M : Int → Option Ms) (C : Nat → Nat → Bool) (h : NetW w0 w g ag mb last S n M C) (hl : 0 ≤ last ∧ last ≤ 1000000) (hnn : n ≤ 10000000) (now : Int) (m : Ms) (v : Value) (delay : Int) (hv : EnsV w v m.es) (hn : m.es.length ≤ 100000) :
    Calls Try.prog 12 #[.pointer (some ⟨g, 0, none⟩), .int .i64 now, msV m v, .int .i64 delay] w (SendP w0 g ag mb last S n M C now m delay w) := by
  have HN := Lib.hid h
  have T1 := Lib.hid (fun w => time_calls now w)
  have T2 := Lib.hid (fun w => time_calls delay w)
  have HV := Lib.hid hv
  have WC := Lib.hid (fun w' (k : Mod w w' []) => write_calls m v w' (hv.mod k) hn)
  have HWZ := Lib.hid (writeS_size m)
  have HMK := Lib.hid (map_set M (last + 1) m)
  have HCK := Lib.hid (checkB_ok (m := m))
  have HSET : Hid (checkB m = true → ∀ j m', setM M (last + 1) m j = some m' → checkB m' = true) := Lib.hid (fun hm => ok_set hm h.ok)
  have HP : Hid (∀ e w', SendP w0 g ag mb last S n M C now m delay w e w' ↔ (if (ixB now && (ixB delay && checkB m)) = true then
    if C m.frm.toNat m.dst.toNat = true then e = .returned (.tuple #[.int .i64 0, .int .i64 0]) ∧ NetW w0 w' g ag mb last S n M C ∧ KpN w w'
    else if 4096 ≤ S.length then e = .returned (.tuple #[.int .i64 0, .int .i64 7]) ∧ NetW w0 w' g ag mb last S n M C ∧ KpN w w'
    else e = .returned (.tuple #[.int .i64 (last + 1), .int .i64 0]) ∧ NetW w0 w' g ag mb (last + 1) (insI S (now + delay, last + 1, 0)) (n + 1) (setM M (last + 1) m) C ∧ KpN w w'
  else e = .returned (.tuple #[.int .i64 0, .int .i64 1]) ∧ NetW w0 w' g ag mb last S n M C ∧ KpN w w')) := Lib.hid (fun _ _ => Iff.rfl)
  have HIDS := Lib.hid (ids_ins (m := m) (x := (now + delay, last + 1, 0)) (last := last) rfl h.ids)
  generalize SendP w0 g ag mb last S n M C now m delay w = SP at *
  generalize setM M (last + 1) m = M' at *
  obtain ⟨ad, cap, rfl, _, _⟩ := hv
  generalize writeS m = WS at *
  generalize hB : checkB m = B at *
  obtain ⟨kind, frm, dst, term, index, lt, commit, yes, es, si, st, sm, sx⟩ := m
  simp only at hn HV HP
  clear hB h
  replace WC : Hid (∀ w' (k : Mod w w' []), Calls Try.prog 29 #[.agg #[.int .i64 kind, .int .i64 frm, .int .i64 dst, .int .i64 term, .int .i64 index, .int .i64 lt, .int .i64 commit, .bool yes, .slice ad es.length cap, .int .i64 si, .int .i64 st, .int .i64 sm, .string sx]] w' fun e w2 => e = .returned (.tuple #[.string (if B = true then WS else ⟨#[]⟩), .int .i64 (if B = true then 0 else 1)]) ∧ Mod w' w2 []) := WC
  show Calls _ _ #[_, _, .agg #[.int .i64 kind, .int .i64 frm, .int .i64 dst, .int .i64 term, .int .i64 index, .int .i64 lt, .int .i64 commit, .bool yes, .slice ad es.length cap, .int .i64 si, .int .i64 st, .int .i64 sm, .string sx], _] _ _
  have HM0 := Lib.hid ((Mod.refl w []).alloc (.cells #[.int .i64 kind, .int .i64 frm, .int .i64 dst, .int .i64 term, .int .i64 index, .int .i64 lt, .int .i64 commit, .bool yes, .slice ad es.length cap, .int .i64 si, .int .i64 st, .int .i64 sm, .string sx] 33))
  have HB0 := Lib.hid (Blk.new w #[.int .i64 kind, .int .i64 frm, .int .i64 dst, .int .i64 term, .int .i64 index, .int .i64 lt, .int .i64 commit, .bool yes, .slice ad es.length cap, .int .i64 si, .int .i64 st, .int .i64 sm, .string sx] 33)
  have C0 := Lib.hid (WC.out _ HM0.out)
  clear WC
  by_cases h1 : ixB now = true
  · rw [h1] at T1
    by_cases h2 : ixB delay = true
    · rw [h2] at T2
      have hnow := inB_t.1 h1
      have hdel := inB_t.1 h2
      cases B
      · go_enter Try.func12, Try.ntmps12
        go_wp2_with fail
        (with_reducible refine (T1.out _).mono ?_)
        rintro e w1 ⟨rfl, rfl⟩
        go_wp2_with fail
        (with_reducible refine (T2.out _).mono ?_)
        rintro e w1 ⟨rfl, rfl⟩
        go_wp2_with fail
        (with_reducible refine (C0.out).mono ?_)
        rintro e w1 ⟨rfl, hm1⟩
        have HM1 := Lib.hid (HM0.out.trans0 hm1)
        clear hm1
        go_wp2_with fail
        exact (HP.out _ _).2 (by rw [if_neg (by simp)]; exact ⟨rfl, HN.out.mod HM1.out, KpN.mod HM1.out⟩)
      · have hok := HCK.out rfl
        obtain ⟨f, rfl⟩ : ∃ f : Nat, frm = f := ⟨frm.toNat, by have := hok.frm; simp only at this; omega⟩
        obtain ⟨d, rfl⟩ : ∃ d : Nat, dst = d := ⟨dst.toNat, by have := hok.dst; simp only at this; omega⟩
        have hf7 : f < 7 := by have := hok.frm; simp only at this; omega
        have hd7 : d < 7 := by have := hok.dst; simp only at this; omega
        have hf7' : (f : Int) < 7 := by omega
        have hd7' : (d : Int) < 7 := by omega
        have hf0 : (0 : Int) ≤ f := by omega
        have hd0 : (0 : Int) ≤ d := by omega
        clear hok
        have A7 := alen7b
        have E7 := ael7b
        have A77 := alen77
        have E77 := ael77
        go_enter Try.func12, Try.ntmps12
        go_wp2_with fail
        (with_reducible refine (T1.out _).mono ?_)
        rintro e w1 ⟨rfl, rfl⟩
        go_wp2_with fail
        (with_reducible refine (T2.out _).mono ?_)
        rintro e w1 ⟨rfl, rfl⟩
        go_wp2_with fail
        (with_reducible refine (C0.out).mono ?_)
        rintro e w1 ⟨rfl, hm1⟩
        have HM1 := Lib.hid (HM0.out.trans0 hm1)
        have HB1 := HB0.out.mod hm1 (by simp)
        have HN1 := Lib.hid (HN.out.mod HM1.out)
        have b1 := HB1.cell 1
        have b2 := HB1.cell 2
        have n0 : w1.cell? ⟨g, 2 + f * 7 + d, none⟩ = some (.bool (C f d)) := by rw [HN1.out.net.cell, netC_get _ _ _ _ _ hf7 hd7]
        clear hm1 HB1 C0 HM0 HB0
        simp only [if_true] 
        go_wp2_with fail
        go_quiet (fail)
        have HNq := Lib.hid (HN1.out.mod ((Mod.refl w1 []).drewN nq))
        have HKq := Lib.hid ((KpN.mod HM1.out).trans (KpN.mod ((Mod.refl w1 []).drewN nq)))
        generalize World.drewN _ nq = wq at *
        clear b1 b2 n0 HN1 HM1
        by_cases hcut : C f d = true
        · simp only [hcut]
          go_wp2_with fail
          exact (HP.out _ _).2 (by rw [if_pos (by simp [h1, h2]), if_pos (by simpa using hcut)]; exact ⟨rfl, HNq.out, HKq.out⟩)
        · have hcut' : C f d = false := by simpa using hcut
          simp only [hcut']
          have c0 : wq.cell? ⟨g, 0, none⟩ = some (.pointer (some ⟨ag, 0, none⟩)) := by rw [HNq.out.net.cell]; rfl
          have hwt := IntWalk.i64_in (now + delay) (by omega)
          have AC := Lib.hid (Ag.add_calls w0 wq ag last S (now + delay) 0 HNq.out.agw (by omega) HNq.out.sl)
          go_wp2_with fail
          (with_reducible refine (AC.out).mono ?_)
          rintro e w2 hp
          unfold AddP at hp
          clear AC c0
          by_cases hfull : 4096 ≤ S.length
          · rw [if_pos hfull] at hp
            obtain ⟨rfl, ha, hk⟩ := hp
            have HN2 := Lib.hid (HNq.out.agSame ha hk)
            clear ha hk
            go_wp2_with fail
            exact (HP.out _ _).2 (by rw [if_pos (by simp [h1, h2]), if_neg (by simpa using hcut), if_pos hfull]; exact ⟨rfl, HN2.out.1, HKq.out.trans HN2.out.2⟩)
          · rw [if_neg hfull] at hp
            obtain ⟨rfl, ha, hk⟩ := hp
            have HA := Lib.hid ha
            have HK := Lib.hid hk
            clear ha hk
            have hmp2 : MapS w2 mb n (fun k => (M k).map writeS) := HNq.out.mp.same (fun es cl he => HK.out.map he)
            obtain ⟨w3, hr, hm3, hmod3⟩ := hmp2.store (by omega) (last + 1) (by omega) (by omega) WS (by have := HWZ.out trivial; omega)
            rw [HMK.out] at hm3
            have c1 : w2.cell? ⟨g, 1, none⟩ = some (.map (some mb)) := by rw [(HK.out.blk HNq.out.net tN_ag).cell]; rfl
            have HN3 := Lib.hid (HNq.out.put HA.out HK.out hm3 hmod3 (by rw [Ag.ins_len]; omega) (HSET.out trivial) HIDS.out)
            clear hm3 hmod3 hmp2 HA HK
            go_wp2_with fail
            exact (HP.out _ _).2 (by rw [if_pos (by simp [h1, h2]), if_neg (by simpa using hcut), if_neg hfull]; exact ⟨rfl, HN3.out.1, HKq.out.trans HN3.out.2⟩)
    · have h2' : ixB delay = false := by simpa using h2
      rw [h2'] at T2
      go_enter Try.func12, Try.ntmps12
      go_wp2_with fail
      (with_reducible refine (T1.out _).mono ?_)
      rintro e w1 ⟨rfl, rfl⟩
      go_wp2_with fail
      (with_reducible refine (T2.out _).mono ?_)
      rintro e w1 ⟨rfl, rfl⟩
      go_wp2_with fail
      exact (HP.out _ _).2 (by rw [if_neg (by simp [h2'])]; exact ⟨rfl, HN.out.mod HM0.out, KpN.mod HM0.out⟩)
  · have h1' : ixB now = false := by simpa using h1
    rw [h1'] at T1
    go_enter Try.func12, Try.ntmps12
    go_wp2_with fail
    (with_reducible refine (T1.out _).mono ?_)
    rintro e w1 ⟨rfl, rfl⟩
    go_wp2_with fail
    exact (HP.out _ _).2 (by rw [if_neg (by simp [h1'])]; exact ⟨rfl, HN.out.mod HM0.out, KpN.mod HM0.out⟩)
end Go.Proofs.Ytgmenlfhkhdbdaa.Nt
