/- What keep.Read answers, plain; that the document's is the same; the contracts of number and of keep's reading of a run. -/
import Derived.Test.YtcbafomhifdgpaaKd1
import Derived.Test.YtcbafomhifdgpaaKe5
import Derived.Test.YtcbafomhifdgpaaKe7
import Derived.Test.YtcbafomhifdgpaaFx
namespace Go.Proofs.Ytcbafomhifdgpaa.Ke
open Go.RowKit Mem Bits
set_option linter.unusedSimpArgs false
set_option linter.unusedVariables false
set_option maxRecDepth 100000
attribute [local go_sem ↓] Go.wp_at_zero Go.wp_at_succ
def kM (s : ByteArray) : Int := limL (nv (nx (nx (nx (s, 0))))) 64
def kP (s : ByteArray) : St := nx (nx (nx (nx (s, 0))))
def kT (s : ByteArray) : Trk := ⟨limL (nv (s, 0)) 549755813888, limL (nv (nx (s, 0))) 9223372036854775807, limL (nv (nx (nx (s, 0)))) 549755813888, (runsK (kP s) (kM s).toNat).1⟩
def kQ (s : ByteArray) : St := (runsK (kP s) (kM s).toNat).2
def kOK (s : ByteArray) : Bool := decide (0 ≤ kM s) && (decide (endE (kQ s).1 (kQ s).2 = 0) && trkB (kT s))
def zeroT : Trk := ⟨0, 0, 0, []⟩
def outD (s : ByteArray) : Trk := if kOK s = true then kT s else zeroT
def errD (s : ByteArray) : Int := if kOK s = true then 0 else 3

def rD (s : ByteArray) : Option Trk :=
  if 64 < nv (nx (nx (nx (s, 0)))) then none else
  match runsR (kP s) (nv (nx (nx (nx (s, 0))))) with
  | none => none
  | some (l, q) => if endE q.1 q.2 = 0 ∧ trkB ⟨limL (nv (s, 0)) 549755813888, limL (nv (nx (s, 0))) 9223372036854775807, limL (nv (nx (nx (s, 0)))) 549755813888, l⟩ = true
      then some ⟨limL (nv (s, 0)) 549755813888, limL (nv (nx (s, 0))) 9223372036854775807, limL (nv (nx (nx (s, 0)))) 549755813888, l⟩ else none
theorem rD_eq (s : ByteArray) : (match rD s with | some t => (t, (0 : Int)) | none => (zeroT, 3)) = (outD s, errD s) := by
  unfold outD errD kOK rD
  have hM : kM s = limL (nv (nx (nx (nx (s, 0))))) 64 := rfl
  by_cases h : 64 < nv (nx (nx (nx (s, 0))))
  · have : kM s = -1 := by rw [hM]; unfold limL; rw [if_pos h]
    rw [if_pos h, this, if_neg (by simp), if_neg (by simp)]
  · have hm : kM s = nv (nx (nx (nx (s, 0)))) := by rw [hM]; unfold limL; rw [if_neg h]
    have ht : (kM s).toNat = nv (nx (nx (nx (s, 0)))) := by omega
    have h0 : decide (0 ≤ kM s) = true := decide_eq_true (by omega)
    rw [if_neg h, h0, Bool.true_and]
    have hr := runs_rel (kP s) (kM s).toNat
    have hQ : kQ s = (runsK (kP s) (kM s).toNat).2 := rfl
    have hT : kT s = ⟨limL (nv (s, 0)) 549755813888, limL (nv (nx (s, 0))) 9223372036854775807, limL (nv (nx (nx (s, 0)))) 549755813888, (runsK (kP s) (kM s).toNat).1⟩ := rfl
    rw [← ht]
    cases hR : runsR (kP s) (kM s).toNat with
    | none =>
      rw [hR] at hr
      obtain ⟨r, hr1, hr2⟩ := hr
      have hb : trkB (kT s) = false := by
        rw [Bool.eq_false_iff]; intro hh
        have := (trk_parts hh).2.2.2.2 r (by rw [hT]; exact hr1)
        rw [show runB r = true from decide_eq_true this] at hr2
        cases hr2
      rw [hb, Bool.and_false, if_neg (by simp), if_neg (by simp)]
    | some x =>
      obtain ⟨l, q⟩ := x
      rw [hR] at hr
      obtain ⟨k1, k2, k3, k4⟩ := hr
      dsimp only
      rw [hQ, k1]
      have hb : trkB (kT s) = trkB ⟨limL (nv (s, 0)) 549755813888, limL (nv (nx (s, 0))) 9223372036854775807, limL (nv (nx (nx (s, 0)))) 549755813888, l⟩ := by
        rw [hT]; unfold trkB; dsimp only; rw [k2, k4]
      rw [hb]
      by_cases he : endE q.1 q.2 = 0 ∧ trkB ⟨limL (nv (s, 0)) 549755813888, limL (nv (nx (s, 0))) 9223372036854775807, limL (nv (nx (nx (s, 0)))) 549755813888, l⟩ = true
      · rw [if_pos he, he.2, decide_eq_true he.1]
        have hl : runsB l = true := by
          have := he.2
          unfold trkB at this
          simp only [Bool.and_eq_true] at this
          exact this.2.2.2
        rw [Bool.true_and, if_pos rfl, if_pos rfl]
        dsimp only
        rw [hT, k3 hl]
      · rw [if_neg he]
        have hf : (decide (endE q.1 q.2 = 0) && trkB ⟨limL (nv (s, 0)) 549755813888, limL (nv (nx (s, 0))) 9223372036854775807, limL (nv (nx (nx (s, 0)))) 549755813888, l⟩) = false := by
          rw [Bool.eq_false_iff]; intro hh
          rw [Bool.and_eq_true] at hh
          exact he ⟨of_decide_eq_true hh.1, hh.2⟩
        rw [hf, if_neg (by simp), if_neg (by simp)]

theorem nx_size (p : St) : (nx p).1.size ≤ p.1.size := tS_size p.1 p.2
theorem nv_lt (p : St) : nv p < 18446744073709551616 := tN_lt p.1 p.2
theorem goK_size (b : Int) (p : St) (i : Nat) : (goK b p i).2.1.1.size ≤ p.1.size := by
  induction i with
  | zero => exact Nat.le_refl _
  | succ i ih =>
    unfold goK
    split
    · exact ih
    · exact Nat.le_trans (nx_size _) ih
theorem runK_size (p : St) : (runK p).2.1.size ≤ p.1.size := by
  refine Nat.le_trans (goK_size _ _ _) ?_
  have h1 := nx_size p
  have h2 := nx_size (nx p)
  have h3 := nx_size (nx (nx p))
  have h4 := nx_size (nx (nx (nx p)))
  have h5 := nx_size (nx (nx (nx (nx p))))
  omega
theorem runsK_size (p : St) (i : Nat) : (runsK p i).2.1.size ≤ p.1.size := by
  induction i with
  | zero => exact Nat.le_refl _
  | succ i ih => exact Nat.le_trans (runK_size _) ih
theorem limL_I {n m : Nat} (hm : m ≤ 9223372036854775807) : isI (limL n m) := by
  have := limL_bd n m; exact ⟨by omega, by omega⟩
theorem runK_ok (p : St) : RunOK (runK p).1 ∧ (runK p).1.ps.length ≤ 16 := by
  have hc := limL_bd (nv (nx (nx (nx (nx p))))) 16
  have hb := limL_bd (nv p) 549755813888
  refine ⟨⟨limL_I (by decide), limL_I (by decide), limL_I (by decide), nv_lt _, fun x hx => ?_⟩, ?_⟩
  · have := (goK_bd (limL (nv p) 549755813888) (nx (nx (nx (nx (nx p))))) (by omega) (limL (nv (nx (nx (nx (nx p))))) 16).toNat).2 x hx
    have h2 : (limL (nv (nx (nx (nx (nx p))))) 16).toNat ≤ 16 := by omega
    generalize (limL (nv (nx (nx (nx (nx p))))) 16).toNat = c at *
    exact ⟨by omega, by omega⟩
  · show (goK _ _ _).1.length ≤ 16
    rw [goK_len]; omega
theorem runsK_ok (p : St) (i : Nat) : (∀ r ∈ (runsK p i).1, RunOK r ∧ r.ps.length ≤ 16) ∧ (runsK p i).1.length = i := by
  induction i with
  | zero => exact ⟨(by intro r hr; cases hr), rfl⟩
  | succ i ih =>
    refine ⟨fun r hr => ?_, by show ((runsK p i).1 ++ _).length = _; rw [List.length_append, ih.2]; rfl⟩
    rcases List.mem_append.1 hr with hr | hr
    · exact ih.1 r hr
    · rw [List.mem_singleton] at hr; subst hr; exact runK_ok _
theorem kT_ok (s : ByteArray) : TrkOK (kT s) ∧ (∀ r ∈ (kT s).rs, r.ps.length ≤ 140737488351232) ∧ (kT s).rs.length ≤ 64 := by
  have h := runsK_ok (kP s) (kM s).toNat
  have hm := limL_bd (nv (nx (nx (nx (s, 0))))) 64
  refine ⟨⟨limL_I (by decide), limL_I (by decide), limL_I (by decide), fun r hr => (h.1 r hr).1⟩, fun r hr => by have := (h.1 r hr).2; omega, ?_⟩
  show (runsK _ _).1.length ≤ 64
  rw [h.2]; unfold kM; omega

theorem number_calls (g : Nat) (p : St) (most : Nat) (mi : Int) (hmi : mi = (most : Int)) (hm : most ≤ 9223372036854775807) (w : World) (hs : p.1.size ≤ 140737488355328) (hb : TapeAt w g p.1 p.2) :
    Calls Try.prog 45 #[.pointer (some ⟨g, 0, none⟩), .int .u64 mi] w fun e w' => e = .returned (.int .i64 (limL (nv p) most)) ∧ Mod w w' [g] ∧ TapeAt w' g (nx p).1 (nx p).2 := by
  subst hmi
  have NC := Lib.hid (Num_calls g p.1 p.2 w (by omega) hb)
  have HN : Hid (tN p.1 p.2 = nv p) := Lib.hid rfl
  have HS : Hid (tS p.1 p.2 = (nx p).1) := Lib.hid rfl
  have HE : Hid (tE p.1 p.2 = (nx p).2) := Lib.hid rfl
  rw [HN.out, HS.out, HE.out] at NC
  have hl := nv_lt p
  clear HN HS HE hb
  generalize nv p = n at *
  by_cases h : most < n
  · have hL : limL n most = -1 := by unfold limL; rw [if_pos h]
    rw [hL]
    have h' : (most : Int) < n := by omega
    clear hL h
    go_enter Try.func45, Try.ntmps45
    go_wp2_with fail
    refine NC.out.mono ?_
    rintro e w1 ⟨rfl, hm1, ht1⟩
    go_wp2_with fail
    go_ret
    exact ⟨rfl, hm1, ht1⟩
  · have hL : limL n most = n := by unfold limL; rw [if_neg h]
    rw [hL]
    have h' : (n : Int) ≤ most := by omega
    have hw := IntWalk.i64_in (n : Int) (by omega)
    clear hL h
    go_enter Try.func45, Try.ntmps45
    go_wp2_with fail
    refine NC.out.mono ?_
    rintro e w1 ⟨rfl, hm1, ht1⟩
    go_wp2_with fail
    go_ret
    exact ⟨rfl, hm1, ht1⟩
end Go.Proofs.Ytcbafomhifdgpaa.Ke
