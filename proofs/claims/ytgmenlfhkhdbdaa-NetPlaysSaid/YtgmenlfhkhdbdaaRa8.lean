/- What message a text says: plain; the program's number. -/
import Derived.Test.YtgmenlfhkhdbdaaRa7
import Derived.Test.YtgmenlfhkhdbdaaBits6
namespace Go.Proofs.Ytgmenlfhkhdbdaa.Ra
open Go.RowKit Mem Bits
set_option linter.unusedSimpArgs false
set_option linter.unusedVariables false
set_option maxRecDepth 100000

abbrev Tp := ByteArray × Int
def lim (n : Nat) : Int := if 549755813888 < n then -1 else n
theorem lim_bd (n : Nat) : -1 ≤ lim n ∧ lim n ≤ 549755813888 := by unfold lim; split <;> omega
/-- The number that stands there, and what stands behind it. -/
def nv (p : Tp) : Int := lim (tN p.1 p.2)
def nx (p : Tp) : Tp := (tS p.1 p.2, tE p.1 p.2)
def tx (p : Tp) (most : Int) : Tp := ((textR p.1 p.2 most).2.1, (textR p.1 p.2 most).2.2)
def fx (p : Tp) : Tp := ((flagR p.1 p.2).2.1, (flagR p.1 p.2).2.2)
def nvs (p : Tp) : Nat → List Int × Tp
  | 0 => ([], p)
  | k + 1 => ((nvs p k).1 ++ [nv (nvs p k).2], nx (nvs p k).2)
def rdE (p : Tp) : En × Tp := (⟨nv p, nv (nx p), nv (nx (nx p)), (textR (nx (nx (nx p))).1 (nx (nx (nx p))).2 32768).1⟩, tx (nx (nx (nx p))) 32768)
def rdEs (p : Tp) : Nat → List En × Tp
  | 0 => ([], p)
  | k + 1 => ((rdEs p k).1 ++ [(rdE (rdEs p k).2).1], (rdE (rdEs p k).2).2)
def q7 (s : ByteArray) : Tp := nx (nx (nx (nx (nx (nx (nx (s, 0)))))))
def nE (s : ByteArray) : Int := nv (fx (q7 s))
def pE (s : ByteArray) : Tp := nx (fx (q7 s))
def cE (s : ByteArray) : Nat := (min (nE s) 17).toNat
def aE (s : ByteArray) : Tp := (rdEs (pE s) (cE s)).2
/-- What is read, whether it may be or not. -/
def readM (s : ByteArray) : Ms :=
  ⟨nv (s, 0), nv (nx (s, 0)), nv (nx (nx (s, 0))), nv (nx (nx (nx (s, 0)))), nv (nx (nx (nx (nx (s, 0))))), nv (nx (nx (nx (nx (nx (s, 0)))))), nv (nx (nx (nx (nx (nx (nx (s, 0))))))),
    (flagR (q7 s).1 (q7 s).2).1, (rdEs (pE s) (cE s)).1, nv (aE s), nv (nx (aE s)), nv (nx (nx (aE s))), (textR (nx (nx (nx (aE s)))).1 (nx (nx (nx (aE s)))).2 262144).1⟩
def zE (s : ByteArray) : Tp := tx (nx (nx (nx (aE s)))) 262144
def readOk (s : ByteArray) : Bool := decide (endE (zE s).1 (zE s).2 = 0) && (decide (0 ≤ nE s) && checkB (readM s))
def noMs : Ms := ⟨0, 0, 0, 0, 0, 0, 0, false, [], 0, 0, 0, ⟨#[]⟩⟩
/-- The message that a text says; none where it is none. -/
def readS (s : ByteArray) : Ms := if readOk s = true then readM s else noMs
theorem nx_size (p : Tp) : (nx p).1.size ≤ p.1.size := tS_size _ _
theorem flagR_size (s : ByteArray) (e : Int) : (flagR s e).2.1.size ≤ s.size := by
  unfold flagR
  repeat' split
  all_goals dsimp only
  all_goals (first | omega | (rw [ByteArray.size_extract]; omega))
theorem textR_size (s : ByteArray) (e : Int) (most : Int) : (textR s e most).1.size + (textR s e most).2.1.size ≤ s.size := by
  have h0 : (ByteArray.mk #[]).size = 0 := rfl
  unfold textR
  repeat' split
  all_goals dsimp only
  all_goals (first | omega | (rw [ByteArray.size_extract, ByteArray.size_extract]; omega))
theorem tx_size (p : Tp) (most : Int) : (tx p most).1.size ≤ p.1.size := by
  have := textR_size p.1 p.2 most
  show (textR p.1 p.2 most).2.1.size ≤ _
  omega
theorem tx_text (p : Tp) (most : Int) : (textR p.1 p.2 most).1.size ≤ p.1.size := by
  have := textR_size p.1 p.2 most
  omega
theorem fx_size (p : Tp) : (fx p).1.size ≤ p.1.size := flagR_size p.1 p.2
theorem nvs_size (p : Tp) : ∀ k, (nvs p k).2.1.size ≤ p.1.size
  | 0 => Nat.le_refl _
  | k + 1 => Nat.le_trans (nx_size _) (nvs_size p k)
theorem nvs_len (p : Tp) : ∀ k, (nvs p k).1.length = k
  | 0 => rfl
  | k + 1 => by show ((nvs p k).1 ++ [_]).length = _; rw [List.length_append, nvs_len p k]; rfl
theorem rdE_size (p : Tp) : (rdE p).2.1.size ≤ p.1.size := Nat.le_trans (tx_size _ _) (Nat.le_trans (nx_size _) (Nat.le_trans (nx_size _) (nx_size _)))
theorem rdEs_size (p : Tp) : ∀ k, (rdEs p k).2.1.size ≤ p.1.size
  | 0 => Nat.le_refl _
  | k + 1 => Nat.le_trans (rdE_size _) (rdEs_size p k)
theorem rdEs_len (p : Tp) : ∀ k, (rdEs p k).1.length = k
  | 0 => rfl
  | k + 1 => by show ((rdEs p k).1 ++ [_]).length = _; rw [List.length_append, rdEs_len p k]; rfl
abbrev TpAt (w : World) (g : Nat) (p : Tp) : Prop := TapeAt w g p.1 p.2
theorem numb_calls (g : Nat) (p : Tp) (w : World) (hs : p.1.size ≤ 9007199254740992) (hb : TpAt w g p) :
    Calls Try.prog 83 #[.pointer (some ⟨g, 0, none⟩)] w fun e w' => e = .returned (.int .i64 (nv p)) ∧ Mod w w' [g] ∧ TpAt w' g (nx p) := by
  have NC := Lib.hid (Num_calls g p.1 p.2 w hs hb)
  have hn := tN_lt p.1 p.2
  have HV : Hid (nv p = lim (tN p.1 p.2)) := Lib.hid rfl
  generalize nv p = V at *
  generalize tN p.1 p.2 = n at *
  go_enter Try.func83, Try.ntmps83
  go_wp2_with fail
  (with_reducible refine (NC.out).mono ?_)
  rintro e w1 ⟨rfl, hm, ht⟩
  have HM := Lib.hid hm
  have HT : Hid (TpAt w1 g (nx p)) := Lib.hid ht
  clear hm ht NC
  by_cases h : 549755813888 < n
  · have h' : (549755813888 : Int) < n := by omega
    have hr := Lib.hid (show (-1 : Int) = V from by rw [HV.out]; unfold lim; rw [if_pos h])
    go_wp2_with fail
    go_ret
    exact ⟨ret_int hr.out, HM.out, HT.out⟩
  · have h' : ¬ (549755813888 : Int) < n := by omega
    have hw := IntWalk.i64_in (n : Int) (by omega)
    have hr := Lib.hid (show (n : Int) = V from by rw [HV.out]; unfold lim; rw [if_neg h])
    go_wp2_with fail
    go_ret
    exact ⟨ret_int hr.out, HM.out, HT.out⟩
/-- A struct of thirteen cells is stored. -/
theorem put13 {W : World} {g : Nat} {t : TypeId} {c0 c1 c2 c3 c4 c5 c6 c7 c8 c9 c10 c11 c12 : Value} (h : Blk W g #[c0, c1, c2, c3, c4, c5, c6, c7, c8, c9, c10, c11, c12] t) (a0 a1 a2 a3 a4 a5 a6 a7 a8 a9 a10 a11 a12 : Value) : Blk (((((((((((((W.setCell ⟨g, 0, none⟩ a0).setCell ⟨g, 1, none⟩ a1).setCell ⟨g, 2, none⟩ a2).setCell ⟨g, 3, none⟩ a3).setCell ⟨g, 4, none⟩ a4).setCell ⟨g, 5, none⟩ a5).setCell ⟨g, 6, none⟩ a6).setCell ⟨g, 7, none⟩ a7).setCell ⟨g, 8, none⟩ a8).setCell ⟨g, 9, none⟩ a9).setCell ⟨g, 10, none⟩ a10).setCell ⟨g, 11, none⟩ a11).setCell ⟨g, 12, none⟩ a12) g #[a0, a1, a2, a3, a4, a5, a6, a7, a8, a9, a10, a11, a12] t := by
  have := (((((((((((((h.set 0 a0).set 1 a1).set 2 a2).set 3 a3).set 4 a4).set 5 a5).set 6 a6).set 7 a7).set 8 a8).set 9 a9).set 10 a10).set 11 a11).set 12 a12)
  simpa using this
theorem mod13 (W : World) (g : Nat) (a0 a1 a2 a3 a4 a5 a6 a7 a8 a9 a10 a11 a12 : Value) : Mod W (((((((((((((W.setCell ⟨g, 0, none⟩ a0).setCell ⟨g, 1, none⟩ a1).setCell ⟨g, 2, none⟩ a2).setCell ⟨g, 3, none⟩ a3).setCell ⟨g, 4, none⟩ a4).setCell ⟨g, 5, none⟩ a5).setCell ⟨g, 6, none⟩ a6).setCell ⟨g, 7, none⟩ a7).setCell ⟨g, 8, none⟩ a8).setCell ⟨g, 9, none⟩ a9).setCell ⟨g, 10, none⟩ a10).setCell ⟨g, 11, none⟩ a11).setCell ⟨g, 12, none⟩ a12) [g] := ((((((((((((((Mod.refl W [g]).setCell (p := ⟨g, 0, none⟩) (.inl (by simp)) a0).setCell (p := ⟨g, 1, none⟩) (.inl (by simp)) a1).setCell (p := ⟨g, 2, none⟩) (.inl (by simp)) a2).setCell (p := ⟨g, 3, none⟩) (.inl (by simp)) a3).setCell (p := ⟨g, 4, none⟩) (.inl (by simp)) a4).setCell (p := ⟨g, 5, none⟩) (.inl (by simp)) a5).setCell (p := ⟨g, 6, none⟩) (.inl (by simp)) a6).setCell (p := ⟨g, 7, none⟩) (.inl (by simp)) a7).setCell (p := ⟨g, 8, none⟩) (.inl (by simp)) a8).setCell (p := ⟨g, 9, none⟩) (.inl (by simp)) a9).setCell (p := ⟨g, 10, none⟩) (.inl (by simp)) a10).setCell (p := ⟨g, 11, none⟩) (.inl (by simp)) a11).setCell (p := ⟨g, 12, none⟩) (.inl (by simp)) a12)
end Go.Proofs.Ytgmenlfhkhdbdaa.Ra
