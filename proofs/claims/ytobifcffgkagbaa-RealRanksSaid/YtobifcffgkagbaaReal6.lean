/- The contract of the reference's quotient. -/
import Derived.Test.YtobifcffgkagbaaReal5
import Derived.Deep.QuietTactic
import Derived.BigQuiet
namespace Go.Proofs.Ytobifcffgkagbaa
open Go.RowKit
set_option linter.unusedSimpArgs false
set_option linter.unusedVariables false

theorem step_quot (X N : Nat) (hN : 0 < N) : (2 * X) / N = 2 * (X / N) + (if N ≤ 2 * (X % N) then 1 else 0) ∧ (2 * X) % N = 2 * (X % N) - (if N ≤ 2 * (X % N) then N else 0) := by
  have h1 := Nat.div_add_mod X N
  have h2 := Nat.mod_lt X hN
  generalize X / N = q at *
  generalize X % N = r at *
  have e : 2 * X = N * (2 * q) + 2 * r := by rw [← h1, Nat.mul_add, Nat.mul_left_comm]
  rw [e, Nat.mul_add_div hN, Nat.mul_add_mod]
  by_cases h : N ≤ 2 * r
  · rw [if_pos h, if_pos h]
    have d : 2 * r / N = 1 := by
      rw [Nat.div_eq_iff hN]; omega
    have m : 2 * r % N = 2 * r - N := by
      rw [Nat.mod_eq_sub_mod h, Nat.mod_eq_of_lt (by omega)]
    rw [d, m]; exact ⟨rfl, rfl⟩
  · rw [if_neg h, if_neg h, Nat.div_eq_of_lt (by omega), Nat.mod_eq_of_lt (by omega)]
    exact ⟨rfl, by omega⟩

theorem quot_small (M N i : Nat) (h1 : M < 9007199254740992) (h2 : 4503599627370496 ≤ N) (hi : i ≤ 62) : M * 2 ^ i / N ≤ 9223372036854775808 ∧ (i < 62 → M * 2 ^ i / N ≤ 4611686018427387904) := by
  have hN : 0 < N := by omega
  have hp : 2 ^ i ≤ 2 ^ 62 := Nat.pow_le_pow_right (by decide) hi
  constructor
  · rw [Nat.div_le_iff_le_mul_add_pred hN]
    have : M * 2 ^ i ≤ 9007199254740992 * 2 ^ 62 := Nat.mul_le_mul (by omega) hp
    omega
  · intro hi'
    have hp' : 2 ^ i ≤ 2 ^ 61 := Nat.pow_le_pow_right (by decide) (by omega)
    rw [Nat.div_le_iff_le_mul_add_pred hN]
    have : M * 2 ^ i ≤ 9007199254740992 * 2 ^ 61 := Nat.mul_le_mul (by omega) hp'
    omega

set_option maxHeartbeats 1000000 in
set_option maxRecDepth 100000 in
theorem refpart_calls (p q : Int) (p1 : -9223372036854775808 ≤ p) (p2 : p ≤ 9223372036854775807) (q1 : -9223372036854775808 ≤ q) (q2 : q ≤ 9223372036854775807) (w : World) :
    Calls Try.prog 22 #[.int .i64 p, .int .i64 q] w fun e w' => e = .returned (.int .u64 (refPart p q)) ∧ ∃ k, w' = w.drewN k := by
  have wp := fun w => refwhole_calls p p1 p2 w
  have wq := fun w => refwhole_calls q q1 q2 w
  obtain ⟨rp, np, bp⟩ := Fl.rung_whole p p1 p2
  obtain ⟨rq, nq, bq⟩ := Fl.rung_whole q q1 q2
  have hxor := xor_top (Fl.wholeBits p) (Fl.wholeBits q) bp bq
  have htop := top_sign (Fl.wholeBits p) bp
  rw [np, nq] at hxor
  rw [np] at htop
  by_cases hq : q = 0
  · subst hq
    by_cases hp : p = 0
    · subst hp
      have WP := Lib.hid wp
      have WQ := Lib.hid wq
      clear wp wq hxor htop rp rq np nq bp bq
      rw [show refPart 0 0 = 9221120237041090561 from rfl]
      generalize Fl.wholeBits 0 = a at *
      go_enter Try.func22, Try.ntmps22
      go_wp2_with (go_at_call 19; refine (WP.out _).mono ?_; rintro e w' ⟨rfl, rfl⟩)
      go_ret
      exact ⟨rfl, 0, rfl⟩
    · have hp0 : (p == 0) = false := by rw [beq_eq_false_iff_ne]; exact hp
      have hfin : ((refPart p 0 : Nat) : Int) = ((Fl.signOf (decide (p < 0)) : Nat) : Int) + 9218868437227405312 := by
        unfold refPart Fl.partBits Fl.partRung
        rw [if_neg (by omega)]
        simp; rfl
      have hsb : Fl.signOf (decide (p < 0)) ≤ 9223372036854775808 := by cases decide (p < 0) <;> decide
      have HF := Lib.hid hfin
      have WP := Lib.hid wp
      have WQ := Lib.hid wq
      clear wp wq hxor rp rq np nq bp bq hfin hp
      generalize Fl.exactB p.natAbs = x1 at *
      generalize Fl.exactB (Int.natAbs 0) = x2 at *
      generalize refPart p 0 = R at *
      generalize Fl.signOf (decide (p < 0)) = s at *
      generalize Fl.wholeBits p = a at *
      generalize Fl.wholeBits 0 = b at *
      go_enter Try.func22, Try.ntmps22
      go_wp2_with (first | (go_at_call_of 19 (Value.int .i64 p); refine (WP.out _).mono ?_; rintro e w' ⟨rfl, rfl⟩) | (go_at_call 19; refine (WQ.out _).mono ?_; rintro e w' ⟨rfl, rfl⟩))
      go_ret
      refine ⟨ret_int ?_, 0, rfl⟩
      first | (rw [HF.out]; done) | (rw [HF.out, IntWalk.u64_in _ (by omega)]; done)
  · have hq0 : (q == 0) = false := by rw [beq_eq_false_iff_ne]; exact hq
    by_cases hp : p = 0
    · subst hp
      have hfin : refPart 0 q = Fl.signOf (decide ((0 : Int) < 0) ^^ decide (q < 0)) := by
        unfold refPart Fl.partBits Fl.partRung
        rw [if_neg (by omega), if_neg (by omega)]
        simp
      have HF := Lib.hid hfin
      have WP := Lib.hid wp
      have WQ := Lib.hid wq
      clear wp wq htop rp rq np nq bp bq hfin
      generalize Fl.exactB q.natAbs = x1 at *
      generalize Fl.exactB (Int.natAbs 0) = x2 at *
      generalize refPart 0 q = R at *
      generalize Fl.signOf (decide ((0 : Int) < 0) ^^ decide (q < 0)) = s at *
      generalize Fl.wholeBits q = a at *
      generalize Fl.wholeBits 0 = b at *
      go_enter Try.func22, Try.ntmps22
      go_wp2_with (first | (go_at_call_of 19 (Value.int .i64 q); refine (WQ.out _).mono ?_; rintro e w' ⟨rfl, rfl⟩) | (go_at_call 19; refine (WP.out _).mono ?_; rintro e w' ⟨rfl, rfl⟩))
      go_ret
      refine ⟨ret_int ?_, 0, rfl⟩
      rw [HF.out]
    · have hp0 : (p == 0) = false := by rw [beq_eq_false_iff_ne]; exact hp
      have hpp : 0 < p.natAbs := by omega
      have hqq : 0 < q.natAbs := by omega
      have hbp := Fl.rungOf_bd p.natAbs hpp (by omega)
      have hbq := Fl.rungOf_bd q.natAbs hqq (by omega)
      have he := Fl.expo_bd p.natAbs q.natAbs hpp hqq (by omega) (by omega)
      have hlen := Fl.quotW_len (Fl.rungOf p.natAbs) (Fl.rungOf q.natAbs)
      have hW := Fl.quotW_bd (Fl.rungOf p.natAbs) (Fl.rungOf q.natAbs)
      have hH : (1087 : Nat) * Fl.B < 9223372036854775808 := by decide
      have sp := fun w => size_calls (Fl.wholeBits p) bp w
      have sq := fun w => size_calls (Fl.wholeBits q) bq w
      rw [show Fl.wholeBits p % 9223372036854775808 = Fl.rungOf p.natAbs from rp] at sp
      rw [show Fl.wholeBits q % 9223372036854775808 = Fl.rungOf q.natAbs from rq] at sq
      have cp := fun w => cut_calls (Fl.rungOf p.natAbs) (by omega) w
      have cq := fun w => cut_calls (Fl.rungOf q.natAbs) (by omega) w
      have rc := fun (e : Int) (he' : (Fl.expo p.natAbs q.natAbs : Int) = 1022 + (Fl.len (Fl.quotW (Fl.rungOf p.natAbs) (Fl.rungOf q.natAbs)) : Int) + e) w =>
        rounded_calls (Fl.quotW (Fl.rungOf p.natAbs) (Fl.rungOf q.natAbs)) (by omega) (by omega) e (Fl.quotMore (Fl.rungOf p.natAbs) (Fl.rungOf q.natAbs)) (Fl.expo p.natAbs q.natAbs) he' (by unfold Fl.expo; omega) (by unfold Fl.expo; omega) w
      have hx : (Fl.expo p.natAbs q.natAbs : Int) = 1022 + (Fl.len (Fl.quotW (Fl.rungOf p.natAbs) (Fl.rungOf q.natAbs)) : Int) + (((Fl.rungOf p.natAbs / Fl.B : Nat) : Int) - 1075 - (((Fl.rungOf q.natAbs / Fl.B : Nat) : Int) - 1075) - 62) := by
        unfold Fl.expo; omega
      replace rc := fun w => rc _ hx w
      have mp := Fl.mant_bd (Fl.rungOf p.natAbs)
      have mq := Fl.mant_bd (Fl.rungOf q.natAbs)
      have hqW : Fl.quotW (Fl.rungOf p.natAbs) (Fl.rungOf q.natAbs) = (Fl.B + Fl.rungOf p.natAbs % Fl.B) * 2 ^ 62 / (Fl.B + Fl.rungOf q.natAbs % Fl.B) := rfl
      have hqM : Fl.quotMore (Fl.rungOf p.natAbs) (Fl.rungOf q.natAbs) = decide (0 < (Fl.B + Fl.rungOf p.natAbs % Fl.B) * 2 ^ 62 % (Fl.B + Fl.rungOf q.natAbs % Fl.B)) := rfl
      have hfin : refPart p q = Fl.signOf (decide (p < 0) ^^ decide (q < 0)) + Fl.rnd (Fl.quotW (Fl.rungOf p.natAbs) (Fl.rungOf q.natAbs)) (Fl.expo p.natAbs q.natAbs) (Fl.quotMore (Fl.rungOf p.natAbs) (Fl.rungOf q.natAbs)) := by
        unfold refPart Fl.partBits Fl.partRung
        rw [if_neg (by omega), if_neg (by omega), if_neg (by omega)]
      have hrl := Fl.rnd_bd (Fl.quotW (Fl.rungOf p.natAbs) (Fl.rungOf q.natAbs)) (Fl.expo p.natAbs q.natAbs) (Fl.quotMore (Fl.rungOf p.natAbs) (Fl.rungOf q.natAbs)) (by unfold Fl.expo; omega) (by omega)
      have hxl : Fl.expo p.natAbs q.natAbs + 1 ≤ 2046 := by unfold Fl.expo; omega
      have hrb : Fl.rnd (Fl.quotW (Fl.rungOf p.natAbs) (Fl.rungOf q.natAbs)) (Fl.expo p.natAbs q.natAbs) (Fl.quotMore (Fl.rungOf p.natAbs) (Fl.rungOf q.natAbs)) ≤ 9214364837600034816 :=
        Nat.le_trans hrl.2 (Nat.mul_le_mul_right _ hxl)
      have hsb : Fl.signOf (decide (p < 0) ^^ decide (q < 0)) ≤ 9223372036854775808 := by cases (decide (p < 0) ^^ decide (q < 0)) <;> decide
      clear hrl hxl hx rp rq np nq bp bq htop hbp hbq hH hp
      generalize Fl.rnd (Fl.quotW (Fl.rungOf p.natAbs) (Fl.rungOf q.natAbs)) (Fl.expo p.natAbs q.natAbs) (Fl.quotMore (Fl.rungOf p.natAbs) (Fl.rungOf q.natAbs)) = R at *
      generalize Fl.quotMore (Fl.rungOf p.natAbs) (Fl.rungOf q.natAbs) = more at *
      generalize Fl.quotW (Fl.rungOf p.natAbs) (Fl.rungOf q.natAbs) = W at *
      generalize Fl.B + Fl.rungOf p.natAbs % Fl.B = M at *
      generalize Fl.B + Fl.rungOf q.natAbs % Fl.B = N at *
      generalize Fl.rungOf p.natAbs / Fl.B = ep at *
      generalize Fl.rungOf q.natAbs / Fl.B = eq at *
      generalize Fl.signOf (decide (p < 0) ^^ decide (q < 0)) = s at *
      generalize refPart p q = T at *
      generalize Fl.exactB p.natAbs = x1 at *
      generalize Fl.exactB q.natAbs = x2 at *
      generalize Fl.rungOf p.natAbs = rgp at *
      generalize Fl.rungOf q.natAbs = rgq at *
      generalize Fl.wholeBits p = a at *
      generalize Fl.wholeBits q = b at *
      have WP := Lib.hid wp
      have WQ := Lib.hid wq
      have SP := Lib.hid sp
      have SQ := Lib.hid sq
      have CP := Lib.hid cp
      have CQ := Lib.hid cq
      have rc' : ∀ (g : Nat) (e : Int) (mo : Bool), g = W → e = (ep : Int) - 1075 - ((eq : Int) - 1075) - 62 → mo = more → ∀ w, Calls Try.prog 53 #[.int .u64 g, .int .i64 e, .bool mo] w fun e w' => e = .returned (.int .u64 R) ∧ w = w' := by
        rintro _ _ _ rfl rfl rfl w; exact rc w
      have RC := Lib.hid rc'
      clear rc'
      have HQW := Lib.hid hqW
      have HQM := Lib.hid hqM
      have HF := Lib.hid hfin
      have HS := Lib.hid (step_quot · N (by omega))
      have HB := Lib.hid (quot_small M N · (by omega) (by omega))
      have hn0 : ((N : Int) == 0) = false := by rw [beq_eq_false_iff_ne]; omega
      have hN1 : 4503599627370496 ≤ (N : Int) := by omega
      have hN2 : (N : Int) < 9007199254740992 := by omega
      have hM1 : 4503599627370496 ≤ (M : Int) := by omega
      have hM2 : (M : Int) < 9007199254740992 := by omega
      clear wp wq sp sq cp cq rc hqW hqM hfin
      go_enter Try.func22, Try.ntmps22
      go_wp2_with (first | (go_at_call_of 19 (Value.int .i64 p); refine (WP.out _).mono ?_; rintro e w' ⟨rfl, rfl⟩) | (go_at_call 19; refine (WQ.out _).mono ?_; rintro e w' ⟨rfl, rfl⟩) | (go_at_call_of 56 (Value.int .u64 ↑a); refine (SP.out _).mono ?_; rintro e w' ⟨rfl, rfl⟩) | (go_at_call 56; refine (SQ.out _).mono ?_; rintro e w' ⟨rfl, rfl⟩) | (go_at_call_of 55 (Value.int .u64 ↑rgp); refine (CP.out _).mono ?_; rintro e w' ⟨rfl, rfl⟩) | (go_at_call 55; refine (CQ.out _).mono ?_; rintro e w' ⟨rfl, rfl⟩))
      go_quiet (fail)
      go_wp2_with fail
      go_loop [14, 15, 16] (fun vg vr vi => ∃ i g r : Nat, i ≤ 62 ∧ vi = .int .i64 i ∧ vg = .int .u64 g ∧ vr = .int .u64 r ∧ r < N ∧ Hid (g = M * 2 ^ i / N) ∧ Hid (r = M * 2 ^ i % N)) (fun _ _ vi => 62 - (intOf vi).toNat)
      case atStart =>
        have h0 := (HB.out 0 (by omega)).1
        simp only [Nat.pow_zero, Nat.mul_one] at h0
        refine ⟨0, M / N, M % N, by omega, rfl, vint ?_, vint rfl, Nat.mod_lt _ (by omega), Lib.hid (by simp), Lib.hid (by simp)⟩
        have e : (M : Int) / (N : Int) = ((M / N : Nat) : Int) := rfl
        rw [e]
        generalize M / N = g at *
        exact IntWalk.u64_in _ (by omega)
      case round =>
        obtain ⟨i, g, r, hi, rfl, rfl, rfl, hr, HG, HR⟩ := hrel
        have hb := HB.out i hi
        rw [← HG.out] at hb
        by_cases hlt : i < 62
        · have hg : (g : Int) ≤ 4611686018427387904 := by have := hb.2 hlt; omega
          clear hb
          have hs := HS.out (M * 2 ^ i)
          rw [← HG.out, ← HR.out, show 2 * (M * 2 ^ i) = M * 2 ^ (i + 1) by rw [Nat.pow_succ, Nat.mul_comm 2, Nat.mul_assoc]] at hs
          have HS1 := Lib.hid hs
          clear hs
          have w1 : IntKind.u64.wrap (2 * (g : Int)) = 2 * (g : Int) := IntWalk.u64_in _ (by omega)
          have w2 : IntKind.u64.wrap (2 * (g : Int) + 1) = 2 * (g : Int) + 1 := IntWalk.u64_in _ (by omega)
          have w3 : IntKind.u64.wrap (2 * (r : Int)) = 2 * (r : Int) := IntWalk.u64_in _ (by omega)
          have hlt' : (i : Int) < 62 := by omega
          have hi' : (i : Int) + 1 ≤ 62 := by omega
          by_cases hc : N ≤ 2 * r
          · have w4 : IntKind.u64.wrap (2 * (r : Int) - (N : Int)) = 2 * (r : Int) - (N : Int) := IntWalk.u64_in _ (by omega)
            have hc' : (N : Int) ≤ 2 * (r : Int) := by omega
            have K : Hid (N ≤ 2 * r ∧ r < N) := Lib.hid ⟨hc, hr⟩
            clear hN1 hN2 hM1 hM2 hg mp mq he hlen hW hsb hrb hc hr p1 p2 q1 q2
            go_wp2
            go_round
            case rel =>
              have hs := HS1.out
              rw [if_pos K.out.1, if_pos K.out.1] at hs
              have := K.out
              exact ⟨i + 1, 2 * g + 1, 2 * r - N, by omega, by go_num, by go_num, vint (by omega), by omega, Lib.hid hs.1.symm, Lib.hid hs.2.symm⟩
            case measure => simp [intOf]; omega
          · have hc' : decide ((N : Int) ≤ 2 * (r : Int)) = false := by rw [decide_eq_false_iff_not]; omega
            have hc'' : 2 * (r : Int) < (N : Int) := by omega
            have K : Hid (¬ N ≤ 2 * r ∧ r < N) := Lib.hid ⟨hc, hr⟩
            clear hN1 hN2 hM1 hM2 hg mp mq he hlen hW hsb hrb hc hr p1 p2 q1 q2
            go_wp2
            go_round
            case rel =>
              have hs := HS1.out
              rw [if_neg K.out.1, if_neg K.out.1] at hs
              have := K.out
              exact ⟨i + 1, 2 * g, 2 * r, by omega, by go_num, by go_num, vint (by omega), by omega, Lib.hid (by rw [hs.1]; rfl), Lib.hid (by rw [hs.2]; rfl)⟩
            case measure => simp [intOf]; omega
        · obtain rfl : i = 62 := by omega
          have eg : W = g := by rw [HQW.out, HG.out]
          have er : more = decide (0 < (r : Int)) := by rw [HQM.out, ← HR.out, decide_eq_decide]; omega
          have EG := Lib.hid eg
          have ER := Lib.hid er
          clear eg er
          go_wp2_with fail
          refine (RC.out _ _ _ EG.out.symm (by omega) (by rw [ER.out]; first | rfl | simp) _).mono ?_
          rintro e w' ⟨rfl, rfl⟩
          go_wp2_with fail
          go_ret
          refine ⟨ret_int ?_, nq, rfl⟩
          rw [HF.out]
          first | omega | (rw [IntWalk.u64_in _ (by omega)]; omega)
end Go.Proofs.Ytobifcffgkagbaa
