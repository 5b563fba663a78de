/- Reading an event: what is read, plain. -/
import Derived.Test.YtdmipmkgoefidaaEvD2
namespace Go.Proofs.Ytdmipmkgoefidaa.Ev
open Go.RowKit Mem Bits EvH
set_option linter.unusedSimpArgs false
set_option linter.unusedVariables false
set_option maxRecDepth 100000

theorem unfoldI_bd (n : Nat) (h : n < 18446744073709551616) : -9223372036854775808 ≤ unfoldI n ∧ unfoldI n ≤ 9223372036854775807 := by
  unfold unfoldI; split <;> omega
theorem realR_lt (s : ByteArray) (e : Int) : (realR s e).1 < 18446744073709551616 := by
  unfold realR
  split
  · show (0 : Nat) < 18446744073709551616; decide
  split
  · show (0 : Nat) < 18446744073709551616; decide
  have hv := val_bd0 s 8 8 (Nat.le_refl _) (by omega)
  rw [List.take_of_length_le (by rw [Bt.bytesOf_length s 0 8 (by omega)]; exact Nat.le_refl _)] at hv
  split
  · show (0 : Nat) < 18446744073709551616; decide
  · exact hv

theorem fldT_ok (t : Tp) (ht : t.1.size ≤ 1000000) : FldOK (fldT t).1 := by
  have h1 := textR_size t 16
  have h2 := tpT_size t 16
  have hb := limI_bd (tN (tpT t 16).1 (tpT t 16).2) 3
  have h3 := unfoldI_bd _ (tN_lt (tpN (tpT t 16)).1 (tpN (tpT t 16)).2)
  have h4 := realR_lt (tpN (tpT t 16)).1 (tpN (tpT t 16)).2
  have h5 := textR_size (tpN (tpT t 16)) 64
  have h6 := tpN_size (tpT t 16)
  have hz : (ByteArray.mk #[]).size = 0 := rfl
  have hname : (fldT t).1.name = (textR t.1 t.2 16).1 := rfl
  have hv : (fldT t).1.v = (valT (tpT t 16)).1 := rfl
  have hV : ∀ v, (valT (tpT t 16)).1 = v → (-9223372036854775808 ≤ v.k ∧ v.k ≤ 9223372036854775807) ∧ (-9223372036854775808 ≤ v.n ∧ v.n ≤ 9223372036854775807) ∧ v.f < 18446744073709551616 ∧ v.s.size ≤ 140737488351232 := by
    intro v hv
    unfold valT at hv
    repeat' split at hv
    all_goals subst hv
    all_goals simp only [hz]
    all_goals refine ⟨⟨by omega, by omega⟩, ⟨by omega, by omega⟩, by omega, by omega⟩
  have := hV _ rfl
  rw [← hv] at this
  exact ⟨by rw [hname]; omega, this.1.1, this.1.2, this.2.1.1, this.2.1.2, this.2.2.1, this.2.2.2⟩
theorem goT_ok (t : Tp) (ht : t.1.size ≤ 1000000) (i : Nat) : ∀ x ∈ (goT t i).1, FldOK x := by
  induction i with
  | zero => intro x hx; simp [goT] at hx
  | succ i ih =>
    intro x hx
    simp only [goT, List.mem_append, List.mem_singleton] at hx
    rcases hx with hx | rfl
    · exact ih x hx
    · exact fldT_ok _ (by have := goT_size t i; omega)

/-- What a text says, as an event's parts. -/
structure EvD where
  a : Int
  b : Int
  c : Int
  k : ByteArray
  l : List Fld
def tD (s : ByteArray) : Tp := tpN (tpN (tpN (s, 0)))
def nD (s : ByteArray) : Nat := tN (tpT (tD s) 16).1 (tpT (tD s) 16).2
def gD (s : ByteArray) : List Fld × Tp := goT (tpN (tpT (tD s) 16)) (limI (nD s) 8).toNat
def rawD (s : ByteArray) : EvD :=
  ⟨limI (tN s 0) 549755813888, limI (tN (tpN (s, 0)).1 (tpN (s, 0)).2) 549755813888, limI (tN (tpN (tpN (s, 0))).1 (tpN (tpN (s, 0))).2) 549755813888, (textR (tD s).1 (tD s).2 16).1, (gD s).1⟩
def okD (s : ByteArray) : Bool := decide (nD s ≤ 8) && (decide (endE (gD s).2.1 (gD s).2.2 = 0) && checkB (rawD s).a (rawD s).b (rawD s).c (rawD s).k (rawD s).l)
def zeroD : EvD := ⟨0, 0, 0, ⟨#[]⟩, []⟩
def outD (s : ByteArray) : EvD := if okD s then rawD s else zeroD
def errD (s : ByteArray) : Int := if okD s then 0 else 3
theorem tD_size (s : ByteArray) : (tD s).1.size ≤ s.size := by
  have h1 := tpN_size (s, 0)
  have h2 := tpN_size (tpN (s, 0))
  have h3 := tpN_size (tpN (tpN (s, 0)))
  unfold tD
  dsimp only at h1
  omega
theorem gD_ok (s : ByteArray) (hs : s.size ≤ 1000000) : ∀ x ∈ (gD s).1, FldOK x := by
  have h1 := tD_size s
  have h2 := tpT_size (tD s) 16
  have h3 := tpN_size (tpT (tD s) 16)
  exact goT_ok _ (by omega) _
theorem outD_good {s : ByteArray} (h : okD s = true) : outD s = rawD s ∧ errD s = 0 := by unfold outD errD; rw [h]; exact ⟨rfl, rfl⟩
theorem outD_bad {s : ByteArray} (h : okD s = false) : outD s = zeroD ∧ errD s = 3 := by unfold outD errD; rw [h]; exact ⟨rfl, rfl⟩
end Go.Proofs.Ytdmipmkgoefidaa.Ev
